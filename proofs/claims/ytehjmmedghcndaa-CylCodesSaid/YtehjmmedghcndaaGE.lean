import Derived.Test.YtehjmmedghcndaaPGx0
import Derived.Test.YtehjmmedghcndaaCJ
import Derived.Test.YtehjmmedghcndaaLT
namespace Go.Proofs.Ytehjmmedghcndaa.PG
open Go.RowKit Go.Proofs.YtehjmmedghcndaaW.PrintWords Go.Proofs.YtehjmmedghcndaaW.PrintLast Go.Proofs.YtehjmmedghcndaaW.PrintMore
attribute [local go_sem] max2_int min2_int max_two min_two max_three min_three max_four min_four run_store_one   -- for this text's walks alone
set_option linter.unusedVariables false
set_option linter.unusedSimpArgs false
/-! ### selvedgeref18_Decode: function 33 -/
mutual
def selvedgeref18_Decode.l0 : Nat → List Int → Int → Int → Int → Int → Int → Int → List Int → Option (Int × Int × Int × Int × Int × List Int × List Int × Int)
 | 0, _, _, _, _, _, _, _, _ => none
 | k + 1, x0, x5, x533000, x533001, x533002, x533003, x533004, x533005 => if x5 < 64 then (if 0 ≤ (wrap64 (6 + (wrap64 (Int.tdiv x5 8)))) then (if (wrap64 (6 + (wrap64 (Int.tdiv x5 8)))) < (x0.length : Int) then (if 0 ≤ (Int.tmod x5 8) then (if (Go.bits .and .u8 (shr .u8 (rd x0 (wrap64 (6 + (wrap64 (Int.tdiv x5 8))))) (Int.tmod x5 8)) 1) = 1 then (if x533005.length < 17592186044416 then (selvedgeref18_Decode.l0 k x0 (wrap64 (x5 + 1)) x533000 x533001 x533002 x533003 x533004 (x533005 ++ [x5])) else (none)) else (selvedgeref18_Decode.l0 k x0 (wrap64 (x5 + 1)) x533000 x533001 x533002 x533003 x533004 x533005)) else (none)) else (none)) else (none)) else (selvedgeref18_Decode.l1 k x0 0 x533000 x533001 x533002 x533003 x533004 x533005 ([] : List Int))
def selvedgeref18_Decode.l1 : Nat → List Int → Int → Int → Int → Int → Int → Int → List Int → List Int → Option (Int × Int × Int × Int × Int × List Int × List Int × Int)
 | 0, _, _, _, _, _, _, _, _, _ => none
 | k + 1, x0, x6, x533000, x533001, x533002, x533003, x533004, x533005, x533006 => if x6 < 16 then (if 0 ≤ (wrap64 (14 + (wrap64 (Int.tdiv x6 8)))) then (if (wrap64 (14 + (wrap64 (Int.tdiv x6 8)))) < (x0.length : Int) then (if 0 ≤ (Int.tmod x6 8) then (if (Go.bits .and .u8 (shr .u8 (rd x0 (wrap64 (14 + (wrap64 (Int.tdiv x6 8))))) (Int.tmod x6 8)) 1) = 1 then (if x533006.length < 17592186044416 then (selvedgeref18_Decode.l1 k x0 (wrap64 (x6 + 1)) x533000 x533001 x533002 x533003 x533004 x533005 (x533006 ++ [x6])) else (none)) else (selvedgeref18_Decode.l1 k x0 (wrap64 (x6 + 1)) x533000 x533001 x533002 x533003 x533004 x533005 x533006)) else (none)) else (none)) else (none)) else ((selvedgeref18_Encode.f k x533000 x533001 x533002 x533003 x533004 x533005 x533006).bind fun bt541 => (if bt541.2 = 0 then (if (strOfNums bt541.1).toList = (strOfNums x0).toList then (some (x533000, x533001, x533002, x533003, x533004, x533005, x533006, 0)) else (some (0, 0, 0, 0, 0, ([] : List Int), ([] : List Int), 3))) else (some (0, 0, 0, 0, 0, ([] : List Int), ([] : List Int), 3))))
end
def selvedgeref18_Decode.f (k : Nat) (l0 : List Int) : Option (Int × Int × Int × Int × Int × List Int × List Int × Int) := if (l0.length : Int) = 32 then (if 1 < (l0.length : Int) then (if 2 < (l0.length : Int) then (if 3 < (l0.length : Int) then (if 4 < (l0.length : Int) then (if 5 < (l0.length : Int) then (selvedgeref18_Decode.l0 k l0 0 (wrap64 (rd l0 1)) (wrap64 (rd l0 2)) (wrap64 (rd l0 3)) (wrap64 (rd l0 4)) (wrap64 (rd l0 5)) ([] : List Int)) else (none)) else (none)) else (none)) else (none)) else (none)) else (some (0, 0, 0, 0, 0, ([] : List Int), ([] : List Int), 3))
def selvedgeref18_Decode.T3 : Bool × List (List Nat × List Nat) := (true, [([], []), ([0], [0]), ([1], [1]), ([2], [2]), ([], []), ([4], [4]), ([5], [5]), ([6], [6]), ([], []), ([8], [8]), ([9], [9]), ([10], [10]), ([], []), ([12], [12]), ([13], [13]), ([14], [14]), ([], []), ([16], [16]), ([17], [17]), ([18], [18]), ([3, 7, 11, 15, 19], [3, 7, 11, 15, 19]), ([], []), ([21, 20, 0, 1, 2, 3, 4, 5, 6, 7, 8, 9, 10, 11, 12, 13, 14, 15, 16, 17, 18, 19, 20, 21], [20, 21])])
def selvedgeref18_Decode.B3 : List Nat := [0, 1, 3, 7, 0, 16, 48, 112, 0, 256, 768, 1792, 0, 4096, 12288, 28672, 0, 65536, 196608, 458752, 1048575, 0, 4194303]
theorem selvedgeref18_Decode.tab3 : rtab .any (opsOf Try.f33 3) = selvedgeref18_Decode.T3 := by kernel_rfl
theorem selvedgeref18_Decode.bits3 : waitsOk selvedgeref18_Decode.T3.2 selvedgeref18_Decode.B3 = true := by kernel_rfl
set_option maxHeartbeats 8000000 in
set_option maxRecDepth 100000 in
theorem selvedgeref18_Decode.calls (k : Nat) (A0 : Option Addr) (c0 : Nat) (l0 : List Int) (r1 : Int) (r2 : Int) (r3 : Int) (r4 : Int) (r5 : Int) (r6 : List Int) (r7 : List Int) (r8 : Int) (w : World) (hr0 : Kd.C (Kd.int .u8) w A0 l0.length l0) (hc0 : l0.length ≤ c0) (h : selvedgeref18_Decode.f k l0 = some (r1, r2, r3, r4, r5, r6, r7, r8)) :
  Calls Try.prog 33 #[.slice A0 l0.length c0] w fun e w' => ∃ v5_ v6_ : Value, e = .returned (.tuple #[.agg #[.int .i64 r1, .int .i64 r2, .int .i64 r3, .int .i64 r4, .int .i64 r5, v5_, v6_], .int .i64 r8]) ∧ Kd.R (Kd.int .i64) 3 w' w.heap.size (fun k_ => some k_ ≠ (v6_ : Value).ownBlock) v5_ r6 ∧ Kd.R (Kd.int .i64) 3 w' w.heap.size (fun k_ => some k_ ≠ (v5_ : Value).ownBlock) v6_ r7 ∧ Below w.heap.size w w' := by
 have hu42 := Try.underlying42
 have HR0 := Aside0.mk hr0
 have HC0 := Aside0.mk hc0
 clear hr0 hc0
 have HB := Aside0.mk (Below.refl w.heap.size w)
 have H : (if (l0.length : Int) = 32 then (if 1 < (l0.length : Int) then (if 2 < (l0.length : Int) then (if 3 < (l0.length : Int) then (if 4 < (l0.length : Int) then (if 5 < (l0.length : Int) then (selvedgeref18_Decode.l0 k l0 0 (wrap64 (rd l0 1)) (wrap64 (rd l0 2)) (wrap64 (rd l0 3)) (wrap64 (rd l0 4)) (wrap64 (rd l0 5)) ([] : List Int)) else (none)) else (none)) else (none)) else (none)) else (none)) else (some (0, 0, 0, 0, 0, ([] : List Int), ([] : List Int), 3))) = some (r1, r2, r3, r4, r5, r6, r7, r8) := h
 clear h
 by_cases c2 : (l0.length : Int) = 32
 rotate_left
 ·rw [if_neg c2] at H
  have c2b0 : ((l0.length : Int) == 32) = false := beq_eq_false_iff_ne.mpr c2
  have c2b1 : ((l0.length : Int) != 32) = true := bne_iff_ne.mpr c2
  simp only [Option.some.injEq, Prod.mk.injEq] at H
  obtain ⟨rfl, rfl, rfl, rfl, rfl, rfl, rfl, rfl⟩ := H
  go_enter Try.func33, Try.ntmps33
  go_wp2_with (first | ((with_reducible refine gate_dst (N := 2) rfl ?_); refine box_event rfl (N := 2) rfl (cs := #[.int .i64 0, .int .i64 0, .int .i64 0, .int .i64 0, .int .i64 0, .slice none 0 0, .slice none 0 0]) (t := 42) (by first | (go_simp; done) | (go_simp; rfl)) ?_; intro gb526 hg w72 hbox hb; have BK526 := Aside0.mk (hbox); have GW526 := gs HB hg; have GE526 := gs HB hg; replace HB := Aside0.mk (below_step (bl HB) hb); clear hb hbox hg; obtain ⟨hcz73_0, hcz73_1, hcz73_2, hcz73_3, hcz73_4, hcz73_5, hcz73_6, hfz73_0, hfz73_1, hfz73_2, hfz73_3, hfz73_4, hfz73_5, hfz73_6⟩ := cf7 BK526))
  refine bodyPost_ret (results_ct rfl _ _ gb526 42 #[.int .i64 0, .int .i64 0, .int .i64 0, .int .i64 0, .int .i64 0, .slice none 0 0, .slice none 0 0] (0, 0) _ rfl (by (with_reducible repeat (first | refine blk_drewN ?_ _ | refine blk_drew ?_ | refine blk_alloc ?_ _)); refine blk_put (cs := #[.int .i64 0, .int .i64 0, .int .i64 0, .int .i64 0, .int .i64 0, .slice none 0 0, .slice none 0 0]) ?_ 6 _ rfl; (with_reducible repeat (first | refine blk_drewN ?_ _ | refine blk_drew ?_ | refine blk_alloc ?_ _)); refine blk_put (cs := #[.int .i64 0, .int .i64 0, .int .i64 0, .int .i64 0, .int .i64 0, .slice none 0 0, .slice none 0 0]) ?_ 5 _ rfl; (with_reducible repeat (first | refine blk_drewN ?_ _ | refine blk_drew ?_ | refine blk_alloc ?_ _)); refine blk_put (cs := #[.int .i64 0, .int .i64 0, .int .i64 0, .int .i64 0, .int .i64 0, .slice none 0 0, .slice none 0 0]) ?_ 4 _ rfl; (with_reducible repeat (first | refine blk_drewN ?_ _ | refine blk_drew ?_ | refine blk_alloc ?_ _)); refine blk_put (cs := #[.int .i64 0, .int .i64 0, .int .i64 0, .int .i64 0, .int .i64 0, .slice none 0 0, .slice none 0 0]) ?_ 3 _ rfl; (with_reducible repeat (first | refine blk_drewN ?_ _ | refine blk_drew ?_ | refine blk_alloc ?_ _)); refine blk_put (cs := #[.int .i64 0, .int .i64 0, .int .i64 0, .int .i64 0, .int .i64 0, .slice none 0 0, .slice none 0 0]) ?_ 2 _ rfl; (with_reducible repeat (first | refine blk_drewN ?_ _ | refine blk_drew ?_ | refine blk_alloc ?_ _)); refine blk_put (cs := #[.int .i64 0, .int .i64 0, .int .i64 0, .int .i64 0, .int .i64 0, .slice none 0 0, .slice none 0 0]) ?_ 1 _ rfl; (with_reducible repeat (first | refine blk_drewN ?_ _ | refine blk_drew ?_ | refine blk_alloc ?_ _)); refine blk_put (cs := #[.int .i64 0, .int .i64 0, .int .i64 0, .int .i64 0, .int .i64 0, .slice none 0 0, .slice none 0 0]) ?_ 0 _ rfl; (with_reducible repeat (first | refine blk_drewN ?_ _ | refine blk_drew ?_ | refine blk_alloc ?_ _)); exact BK526.out) Try.underlying42 rfl (by kernel_rfl)) rfl ?_
  exact ⟨_, _, by first | rfl | (simp [errW_none, errW_some] <;> rfl) | (simp [*, errW_none, errW_some] <;> rfl), by first | exact Kd.R_nil _ _ _ _ _ | exact Kd.N_nil _ _ _ _ _ | exact Kd.V_nil _ _ _ _ _ | exact Kd.Q_nil _ _ _ _ _ | exact Kd.S_nil _ _ _ _ _, by first | exact Kd.R_nil _ _ _ _ _ | exact Kd.N_nil _ _ _ _ _ | exact Kd.V_nil _ _ _ _ _ | exact Kd.Q_nil _ _ _ _ _ | exact Kd.S_nil _ _ _ _ _, bs HB (by simp [ag, GE526.out])⟩

 rw [if_pos c2] at H
 have c2b0 : ((l0.length : Int) == 32) = true := beq_iff_eq.mpr c2
 have c2b1 : ((l0.length : Int) != 32) = false := bne_eq_false_iff_eq.mpr c2
 clear c2
 by_cases c3 : 1 < (l0.length : Int)
 rotate_left
 ·rw [if_neg c3] at H
  exact absurd H (by simp)
 rw [if_pos c3] at H
 have c3b0 : decide (1 < (l0.length : Int)) = true := decide_eq_true c3
 have c3b1 : decide (1 < l0.length) = true := decide_eq_true (by omega)
 clear c3
 by_cases c4 : 2 < (l0.length : Int)
 rotate_left
 ·rw [if_neg c4] at H
  exact absurd H (by simp)
 rw [if_pos c4] at H
 have c4b0 : decide (2 < (l0.length : Int)) = true := decide_eq_true c4
 have c4b1 : decide (2 < l0.length) = true := decide_eq_true (by omega)
 clear c4
 by_cases c5 : 3 < (l0.length : Int)
 rotate_left
 ·rw [if_neg c5] at H
  exact absurd H (by simp)
 rw [if_pos c5] at H
 have c5b0 : decide (3 < (l0.length : Int)) = true := decide_eq_true c5
 have c5b1 : decide (3 < l0.length) = true := decide_eq_true (by omega)
 clear c5
 by_cases c6 : 4 < (l0.length : Int)
 rotate_left
 ·rw [if_neg c6] at H
  exact absurd H (by simp)
 rw [if_pos c6] at H
 have c6b0 : decide (4 < (l0.length : Int)) = true := decide_eq_true c6
 have c6b1 : decide (4 < l0.length) = true := decide_eq_true (by omega)
 clear c6
 by_cases c7 : 5 < (l0.length : Int)
 rotate_left
 ·rw [if_neg c7] at H
  exact absurd H (by simp)
 rw [if_pos c7] at H
 have c7b0 : decide (5 < (l0.length : Int)) = true := decide_eq_true c7
 have c7b1 : decide (5 < l0.length) = true := decide_eq_true (by omega)
 clear c7
 have H' := Aside0.mk H
 clear H
 go_enter Try.func33, Try.ntmps33
 try go_wp2_with (first | ((with_reducible refine gate_dst (N := 2) rfl ?_); refine box_event rfl (N := 2) rfl (cs := #[.int .i64 0, .int .i64 0, .int .i64 0, .int .i64 0, .int .i64 0, .slice none 0 0, .slice none 0 0]) (t := 42) (by first | (go_simp; done) | (go_simp; rfl)) ?_; intro gb526 hg w8 hbox hb; have BK526 := Aside0.mk (hbox); have GW526 := gs HB hg; have GE526 := gs HB hg; replace HB := Aside0.mk (below_step (bl HB) hb); clear hb hbox hg))
 have n0_ := Aside0.mk (blk_drew BK526.out)
 have n1_ := Aside0.mk (below_drew1 HB.out)
 clear BK526
 clear HB
 have BK526 := n0_
 have HB := n1_
 clear n0_ n1_
 have p527 : 0 ≤ (1 : Int) := (by omega)
 have q527 : 1 < (l0.length : Int) := of_decide_eq_true (by first | with_reducible assumption | assumption)
 obtain ⟨ad527, e527, hx527_0⟩ := Kd.at_int HR0.out 1 p527 q527
 have hw527_0 := hx527_0
 (try rw [show ((1 : Int)).toNat = 1 from rfl] at hw527_0)
 (try rw [show 1 * 1 = 1 from rfl] at hw527_0)
 (try simp only [Nat.reduceMul, Nat.reduceEqDiff, Go.Addr.add, ↓reduceIte] at hw527_0)
 cases e527
 (try simp only [show (1 : Int).toNat = 1 from rfl, Nat.reduceMul, Nat.reduceEqDiff, Go.Addr.add, ↓reduceIte] at hx527_0)
 have qi527 : (1 < l0.length) = True := eq_true (by omega)
 (try rw [show ((1 : Int)).toNat = 1 from rfl] at hx527_0)
 replace hx527_0 := pw_cell_below HB.out hx527_0
 replace p527 := eq_true p527
 replace q527 := eq_true q527
 have p528 : 0 ≤ (2 : Int) := (by omega)
 have q528 : 2 < (l0.length : Int) := of_decide_eq_true (by first | with_reducible assumption | assumption)
 obtain ⟨ad528, e528, hx528_0⟩ := Kd.at_int HR0.out 2 p528 q528
 have hw528_0 := hx528_0
 (try rw [show ((2 : Int)).toNat = 2 from rfl] at hw528_0)
 (try rw [show 2 * 1 = 2 from rfl] at hw528_0)
 (try simp only [Nat.reduceMul, Nat.reduceEqDiff, Go.Addr.add, ↓reduceIte] at hw528_0)
 obtain rfl : ad527 = ad528 := (by injection e528)
 (try simp only [show (2 : Int).toNat = 2 from rfl, Nat.reduceMul, Nat.reduceEqDiff, Go.Addr.add, ↓reduceIte] at hx528_0)
 have qi528 : (2 < l0.length) = True := eq_true (by omega)
 (try rw [show ((2 : Int)).toNat = 2 from rfl] at hx528_0)
 replace hx528_0 := pw_cell_below HB.out hx528_0
 replace p528 := eq_true p528
 replace q528 := eq_true q528
 have p529 : 0 ≤ (3 : Int) := (by omega)
 have q529 : 3 < (l0.length : Int) := of_decide_eq_true (by first | with_reducible assumption | assumption)
 obtain ⟨ad529, e529, hx529_0⟩ := Kd.at_int HR0.out 3 p529 q529
 have hw529_0 := hx529_0
 (try rw [show ((3 : Int)).toNat = 3 from rfl] at hw529_0)
 (try rw [show 3 * 1 = 3 from rfl] at hw529_0)
 (try simp only [Nat.reduceMul, Nat.reduceEqDiff, Go.Addr.add, ↓reduceIte] at hw529_0)
 obtain rfl : ad527 = ad529 := (by injection e529)
 (try simp only [show (3 : Int).toNat = 3 from rfl, Nat.reduceMul, Nat.reduceEqDiff, Go.Addr.add, ↓reduceIte] at hx529_0)
 have qi529 : (3 < l0.length) = True := eq_true (by omega)
 (try rw [show ((3 : Int)).toNat = 3 from rfl] at hx529_0)
 replace hx529_0 := pw_cell_below HB.out hx529_0
 replace p529 := eq_true p529
 replace q529 := eq_true q529
 have p530 : 0 ≤ (4 : Int) := (by omega)
 have q530 : 4 < (l0.length : Int) := of_decide_eq_true (by first | with_reducible assumption | assumption)
 obtain ⟨ad530, e530, hx530_0⟩ := Kd.at_int HR0.out 4 p530 q530
 have hw530_0 := hx530_0
 (try rw [show ((4 : Int)).toNat = 4 from rfl] at hw530_0)
 (try rw [show 4 * 1 = 4 from rfl] at hw530_0)
 (try simp only [Nat.reduceMul, Nat.reduceEqDiff, Go.Addr.add, ↓reduceIte] at hw530_0)
 obtain rfl : ad527 = ad530 := (by injection e530)
 (try simp only [show (4 : Int).toNat = 4 from rfl, Nat.reduceMul, Nat.reduceEqDiff, Go.Addr.add, ↓reduceIte] at hx530_0)
 have qi530 : (4 < l0.length) = True := eq_true (by omega)
 (try rw [show ((4 : Int)).toNat = 4 from rfl] at hx530_0)
 replace hx530_0 := pw_cell_below HB.out hx530_0
 replace p530 := eq_true p530
 replace q530 := eq_true q530
 have p531 : 0 ≤ (5 : Int) := (by omega)
 have q531 : 5 < (l0.length : Int) := of_decide_eq_true (by first | with_reducible assumption | assumption)
 obtain ⟨ad531, e531, hx531_0⟩ := Kd.at_int HR0.out 5 p531 q531
 have hw531_0 := hx531_0
 (try rw [show ((5 : Int)).toNat = 5 from rfl] at hw531_0)
 (try rw [show 5 * 1 = 5 from rfl] at hw531_0)
 (try simp only [Nat.reduceMul, Nat.reduceEqDiff, Go.Addr.add, ↓reduceIte] at hw531_0)
 obtain rfl : ad527 = ad531 := (by injection e531)
 (try simp only [show (5 : Int).toNat = 5 from rfl, Nat.reduceMul, Nat.reduceEqDiff, Go.Addr.add, ↓reduceIte] at hx531_0)
 have qi531 : (5 < l0.length) = True := eq_true (by omega)
 (try rw [show ((5 : Int)).toNat = 5 from rfl] at hx531_0)
 replace hx531_0 := pw_cell_below HB.out hx531_0
 replace p531 := eq_true p531
 replace q531 := eq_true q531
 refine start_ (n := 23) (S := fun w' => w'.cell? ⟨ad527.block, ad527.off + 1, none⟩ = some (.int .u8 (rd l0 1)) ∧ w'.cell? ⟨ad527.block, ad527.off + 2, none⟩ = some (.int .u8 (rd l0 2)) ∧ w'.cell? ⟨ad527.block, ad527.off + 3, none⟩ = some (.int .u8 (rd l0 3)) ∧ w'.cell? ⟨ad527.block, ad527.off + 4, none⟩ = some (.int .u8 (rd l0 4)) ∧ w'.cell? ⟨ad527.block, ad527.off + 5, none⟩ = some (.int .u8 (rd l0 5))) (ds := []) #[false, false, false, false, false, false, false, false, false, false, false, false, false, false, false, false, false, false, false, false, false, false, false] (by kernel_rfl) rfl rfl ⟨(pw_cell_below HB.out hw527_0), (pw_cell_below HB.out hw528_0), (pw_cell_below HB.out hw529_0), (pw_cell_below HB.out hw530_0), (pw_cell_below HB.out hw531_0)⟩ (fun hHeld => ?_); refine with_tabW selvedgeref18_Decode.tab3 selvedgeref18_Decode.bits3 (fun HT_ HW_ => ?_)
 generalize w8.drew = w9 at BK526 HB hx527_0 hx528_0 hx529_0 hx530_0 hx531_0 hHeld ⊢
 refine pure_ (i := 0) (N := some 13) (v := ?_) (a' := ?_) (bA 23 1) rfl rfl (any_of HT_.out (by kernel_rfl)) (fun _ _ _ h => h) (Or.inl ⟨by rfl, ?_⟩) ?_ ?_
 rotate_left
 ·intro w'
  go_simp
  with_reducible rfl
 rotate_left
 ·simp only [Act.put, List.setIfInBounds_toArray, List.set_cons_zero, List.set_cons_succ, i64_w, i32_w]
  rfl
 refine pure_ (i := 1) (N := some 14) (v := ?_) (a' := ?_) (bA 23 3) rfl rfl (any_of HT_.out (by kernel_rfl)) (fun _ _ _ h => h) (Or.inl ⟨by rfl, ?_⟩) ?_ ?_
 rotate_left
 ·intro w'
  go_simp
  with_reducible rfl
 rotate_left
 ·simp only [Act.put, List.setIfInBounds_toArray, List.set_cons_zero, List.set_cons_succ, i64_w, i32_w]
  rfl
 refine pure_ (i := 4) (N := some 17) (v := ?_) (a' := ?_) (bA 23 19) rfl rfl (any_of HT_.out (by kernel_rfl)) (fun _ _ _ h => h) (Or.inl ⟨by rfl, ?_⟩) ?_ ?_
 rotate_left
 ·intro w'
  go_simp
  with_reducible rfl
 rotate_left
 ·simp only [Act.put, List.setIfInBounds_toArray, List.set_cons_zero, List.set_cons_succ, i64_w, i32_w]
  rfl
 refine pure_ (i := 5) (N := some 18) (v := ?_) (a' := ?_) (bA 23 51) rfl rfl (any_of HT_.out (by kernel_rfl)) (fun _ _ _ h => h) (Or.inl ⟨by rfl, ?_⟩) ?_ ?_
 rotate_left
 ·intro w'
  go_simp
  with_reducible rfl
 rotate_left
 ·simp only [Act.put, List.setIfInBounds_toArray, List.set_cons_zero, List.set_cons_succ, i64_w, i32_w]
  rfl
 refine pure_ (i := 8) (N := some 21) (v := ?_) (a' := ?_) (bA 23 307) rfl rfl (any_of HT_.out (by kernel_rfl)) (fun _ _ _ h => h) (Or.inl ⟨by rfl, ?_⟩) ?_ ?_
 rotate_left
 ·intro w'
  go_simp
  with_reducible rfl
 rotate_left
 ·simp only [Act.put, List.setIfInBounds_toArray, List.set_cons_zero, List.set_cons_succ, i64_w, i32_w]
  rfl
 refine pure_ (i := 9) (N := some 22) (v := ?_) (a' := ?_) (bA 23 819) rfl rfl (any_of HT_.out (by kernel_rfl)) (fun _ _ _ h => h) (Or.inl ⟨by rfl, ?_⟩) ?_ ?_
 rotate_left
 ·intro w'
  go_simp
  with_reducible rfl
 rotate_left
 ·simp only [Act.put, List.setIfInBounds_toArray, List.set_cons_zero, List.set_cons_succ, i64_w, i32_w]
  rfl
 refine pure_ (i := 12) (N := some 25) (v := ?_) (a' := ?_) (bA 23 4915) rfl rfl (any_of HT_.out (by kernel_rfl)) (fun _ _ _ h => h) (Or.inl ⟨by rfl, ?_⟩) ?_ ?_
 rotate_left
 ·intro w'
  go_simp
  with_reducible rfl
 rotate_left
 ·simp only [Act.put, List.setIfInBounds_toArray, List.set_cons_zero, List.set_cons_succ, i64_w, i32_w]
  rfl
 refine pure_ (i := 13) (N := some 26) (v := ?_) (a' := ?_) (bA 23 13107) rfl rfl (any_of HT_.out (by kernel_rfl)) (fun _ _ _ h => h) (Or.inl ⟨by rfl, ?_⟩) ?_ ?_
 rotate_left
 ·intro w'
  go_simp
  with_reducible rfl
 rotate_left
 ·simp only [Act.put, List.setIfInBounds_toArray, List.set_cons_zero, List.set_cons_succ, i64_w, i32_w]
  rfl
 refine pure_ (i := 16) (N := some 29) (v := ?_) (a' := ?_) (bA 23 78643) rfl rfl (any_of HT_.out (by kernel_rfl)) (fun _ _ _ h => h) (Or.inl ⟨by rfl, ?_⟩) ?_ ?_
 rotate_left
 ·intro w'
  go_simp
  with_reducible rfl
 rotate_left
 ·simp only [Act.put, List.setIfInBounds_toArray, List.set_cons_zero, List.set_cons_succ, i64_w, i32_w]
  rfl
 refine pure_ (i := 17) (N := some 30) (v := ?_) (a' := ?_) (bA 23 209715) rfl rfl (any_of HT_.out (by kernel_rfl)) (fun _ _ _ h => h) (Or.inl ⟨by rfl, ?_⟩) ?_ ?_
 rotate_left
 ·intro w'
  go_simp
  with_reducible rfl
 rotate_left
 ·simp only [Act.put, List.setIfInBounds_toArray, List.set_cons_zero, List.set_cons_succ, i64_w, i32_w]
  rfl
 refine take_ (i := 2) (N := some 15) (v := ?_) (a' := ?_) (bA 23 209719) rfl rfl (take_ofW HT_.out HW_.out (by kernel_rfl)) (fun _ _ _ h => h) (Or.inl ⟨by rfl, ?_⟩) hHeld ?_ ?_
 rotate_left
 ·rintro w' ⟨s0, s1, s2, s3, s4⟩
  go_simp
  with_reducible rfl
 rotate_left
 ·simp only [Act.put, List.setIfInBounds_toArray, List.set_cons_zero, List.set_cons_succ, i64_w, i32_w]
  rfl
 refine pure_ (i := 3) (N := some 16) (v := ?_) (a' := ?_) (bA 23 209727) rfl rfl (any_of HT_.out (by kernel_rfl)) (fun _ _ _ h => h) (Or.inl ⟨by rfl, ?_⟩) ?_ ?_
 rotate_left
 ·intro w'
  go_simp
  with_reducible rfl
 rotate_left
 ·simp only [Act.put, List.setIfInBounds_toArray, List.set_cons_zero, List.set_cons_succ, i64_w, i32_w]
  rfl
 refine take_ (i := 6) (N := some 19) (v := ?_) (a' := ?_) (bA 23 209791) rfl rfl (take_ofW HT_.out HW_.out (by kernel_rfl)) (fun _ _ _ h => h) (Or.inl ⟨by rfl, ?_⟩) hHeld ?_ ?_
 rotate_left
 ·rintro w' ⟨s0, s1, s2, s3, s4⟩
  go_simp
  with_reducible rfl
 rotate_left
 ·simp only [Act.put, List.setIfInBounds_toArray, List.set_cons_zero, List.set_cons_succ, i64_w, i32_w]
  rfl
 refine pure_ (i := 7) (N := some 20) (v := ?_) (a' := ?_) (bA 23 209919) rfl rfl (any_of HT_.out (by kernel_rfl)) (fun _ _ _ h => h) (Or.inl ⟨by rfl, ?_⟩) ?_ ?_
 rotate_left
 ·intro w'
  go_simp
  with_reducible rfl
 rotate_left
 ·simp only [Act.put, List.setIfInBounds_toArray, List.set_cons_zero, List.set_cons_succ, i64_w, i32_w]
  rfl
 refine take_ (i := 10) (N := some 23) (v := ?_) (a' := ?_) (bA 23 210943) rfl rfl (take_ofW HT_.out HW_.out (by kernel_rfl)) (fun _ _ _ h => h) (Or.inl ⟨by rfl, ?_⟩) hHeld ?_ ?_
 rotate_left
 ·rintro w' ⟨s0, s1, s2, s3, s4⟩
  go_simp
  with_reducible rfl
 rotate_left
 ·simp only [Act.put, List.setIfInBounds_toArray, List.set_cons_zero, List.set_cons_succ, i64_w, i32_w]
  rfl
 refine pure_ (i := 11) (N := some 24) (v := ?_) (a' := ?_) (bA 23 212991) rfl rfl (any_of HT_.out (by kernel_rfl)) (fun _ _ _ h => h) (Or.inl ⟨by rfl, ?_⟩) ?_ ?_
 rotate_left
 ·intro w'
  go_simp
  with_reducible rfl
 rotate_left
 ·simp only [Act.put, List.setIfInBounds_toArray, List.set_cons_zero, List.set_cons_succ, i64_w, i32_w]
  rfl
 refine take_ (i := 14) (N := some 27) (v := ?_) (a' := ?_) (bA 23 229375) rfl rfl (take_ofW HT_.out HW_.out (by kernel_rfl)) (fun _ _ _ h => h) (Or.inl ⟨by rfl, ?_⟩) hHeld ?_ ?_
 rotate_left
 ·rintro w' ⟨s0, s1, s2, s3, s4⟩
  go_simp
  with_reducible rfl
 rotate_left
 ·simp only [Act.put, List.setIfInBounds_toArray, List.set_cons_zero, List.set_cons_succ, i64_w, i32_w]
  rfl
 refine pure_ (i := 15) (N := some 28) (v := ?_) (a' := ?_) (bA 23 262143) rfl rfl (any_of HT_.out (by kernel_rfl)) (fun _ _ _ h => h) (Or.inl ⟨by rfl, ?_⟩) ?_ ?_
 rotate_left
 ·intro w'
  go_simp
  with_reducible rfl
 rotate_left
 ·simp only [Act.put, List.setIfInBounds_toArray, List.set_cons_zero, List.set_cons_succ, i64_w, i32_w]
  rfl
 refine take_ (i := 18) (N := some 31) (v := ?_) (a' := ?_) (bA 23 524287) rfl rfl (take_ofW HT_.out HW_.out (by kernel_rfl)) (fun _ _ _ h => h) (Or.inl ⟨by rfl, ?_⟩) hHeld ?_ ?_
 rotate_left
 ·rintro w' ⟨s0, s1, s2, s3, s4⟩
  go_simp
  with_reducible rfl
 rotate_left
 ·simp only [Act.put, List.setIfInBounds_toArray, List.set_cons_zero, List.set_cons_succ, i64_w, i32_w]
  rfl
 refine pure_ (i := 19) (N := some 32) (v := ?_) (a' := ?_) (bA 23 1048575) rfl rfl (any_of HT_.out (by kernel_rfl)) (fun _ _ _ h => h) (Or.inl ⟨by rfl, ?_⟩) ?_ ?_
 rotate_left
 ·intro w'
  go_simp
  with_reducible rfl
 rotate_left
 ·simp only [Act.put, List.setIfInBounds_toArray, List.set_cons_zero, List.set_cons_succ, i64_w, i32_w]
  rfl
 refine pure_ (i := 20) (N := some 33) (v := ?_) (a' := ?_) (bA 23 2097151) rfl rfl (any_of HT_.out (by kernel_rfl)) (fun _ _ _ h => h) (Or.inl ⟨by rfl, ?_⟩) ?_ ?_
 rotate_left
 ·intro w'
  go_simp
  with_reducible rfl
 rotate_left
 ·simp only [Act.put, List.setIfInBounds_toArray, List.set_cons_zero, List.set_cons_succ, i64_w, i32_w]
  rfl
 refine one_ (i := 21) (N := some 4) (bA 23 4194303) rfl rfl (one_of HT_.out (by kernel_rfl)) (by decide) (fun K hK => ?_)
 refine box_step ?hg (N := 4) ?hd (cs := #[.int .i64 0, .int .i64 0, .int .i64 0, .int .i64 0, .int .i64 0, .slice none 0 0, .slice none 0 0]) (t := 42) ?hr ?_; (case hd => rfl); (case hg => rfl); (case hr => first | (go_simp; done) | (go_simp; rfl))
 intro gb532 hg w10 hbox hb
 have n0_ := Aside0.mk (bb BK526 hb)
 have n1_ := Aside0.mk (below_step (bs HB (by simp [ag, GE526.out])) hb)
 have n2_ := Aside0.mk (hbox)
 have n3_ := gl HB hg (by simp [ag, GE526.out])
 have n4_ := gl HB hg (by simp [ag, GE526.out])
 have n5_ := nl BK526 hg
 have n6_ := nt BK526 hg
 clear BK526
 clear HB
 have BK526 := n0_
 have HB := n1_
 have BK532 := n2_
 have GW532 := n3_
 have GE532 := n4_
 have NB526_532 := n5_
 have NB532_526 := n6_
 clear n0_ n1_ n2_ n3_ n4_ n5_ n6_
 clear hb hbox hg
 refine hK.out _ _ ⟨(pw_cell_below HB.out hw527_0), (pw_cell_below HB.out hw528_0), (pw_cell_below HB.out hw529_0), (pw_cell_below HB.out hw530_0), (pw_cell_below HB.out hw531_0)⟩ (fun hHeld => ?_)
 clear hK K
 refine norm_ (a' := ?_) ?_ ?_
 rotate_left
 ·show Act.put _ (some 4) _ = _
  simp only [Act.put, List.setIfInBounds_toArray, List.set_cons_zero, List.set_cons_succ, i64_w, i32_w]
  rfl
 refine one_ (i := 22) (N := none) (bA 23 8388607) rfl rfl (one_of HT_.out (by kernel_rfl)) (by decide) (fun K hK => ?_)
 have hs11 : w10.cell? ⟨gb532, 0, none⟩ = some (.int .i64 0) := (blk_cell BK532.out 0).trans rfl
 have hfs11 := blk_frozen BK532.out 0
 have hns11_0 := NB526_532.out
 have hms11_0 := NB532_526.out
 have hs12 : w10.cell? ⟨gb532, 1, none⟩ = some (.int .i64 0) := (blk_cell BK532.out 1).trans rfl
 have hfs12 := blk_frozen BK532.out 1
 have hns12_0 := NB526_532.out
 have hms12_0 := NB532_526.out
 have hs13 : w10.cell? ⟨gb532, 2, none⟩ = some (.int .i64 0) := (blk_cell BK532.out 2).trans rfl
 have hfs13 := blk_frozen BK532.out 2
 have hns13_0 := NB526_532.out
 have hms13_0 := NB532_526.out
 have hs14 : w10.cell? ⟨gb532, 3, none⟩ = some (.int .i64 0) := (blk_cell BK532.out 3).trans rfl
 have hfs14 := blk_frozen BK532.out 3
 have hns14_0 := NB526_532.out
 have hms14_0 := NB532_526.out
 have hs15 : w10.cell? ⟨gb532, 4, none⟩ = some (.int .i64 0) := (blk_cell BK532.out 4).trans rfl
 have hfs15 := blk_frozen BK532.out 4
 have hns15_0 := NB526_532.out
 have hms15_0 := NB532_526.out
 have hs16 : w10.cell? ⟨gb532, 5, none⟩ = some (.slice none 0 0) := (blk_cell BK532.out 5).trans rfl
 have hfs16 := blk_frozen BK532.out 5
 have hns16_0 := NB526_532.out
 have hms16_0 := NB532_526.out
 have hs17 : w10.cell? ⟨gb532, 6, none⟩ = some (.slice none 0 0) := (blk_cell BK532.out 6).trans rfl
 have hfs17 := blk_frozen BK532.out 6
 have hns17_0 := NB526_532.out
 have hms17_0 := NB532_526.out
 refine skip_ (w1 := ?_) (by rfl) rfl ?_ ?_
 rotate_left
 ·go_simp
  rfl
 refine hK.out _ _ ⟨((cell_far (p := ⟨gb532, _, none⟩) (by first | exact Nat.ne_of_lt (Nat.lt_of_lt_of_le (by have := World.block_lt_of_cell? _ _ hw527_0; first | rwa [add_block] at this | exact this) GW532.out) | (rw [add_block]; exact Nat.ne_of_lt (Nat.lt_of_lt_of_le (by have := World.block_lt_of_cell? _ _ hw527_0; first | rwa [add_block] at this | exact this) GW532.out)) | (show (Addr.add _ _).block ≠ _; rw [add_block]; exact Nat.ne_of_lt (Nat.lt_of_lt_of_le (by have := World.block_lt_of_cell? _ _ hw527_0; first | rwa [add_block] at this | exact this) GW532.out)) | (dsimp only; exact Nat.ne_of_lt (Nat.lt_of_lt_of_le (by have := World.block_lt_of_cell? _ _ hw527_0; first | rwa [add_block] at this | exact this) GW532.out))) _).trans (((cell_far (p := ⟨gb532, _, none⟩) (by first | exact Nat.ne_of_lt (Nat.lt_of_lt_of_le (by have := World.block_lt_of_cell? _ _ hw527_0; first | rwa [add_block] at this | exact this) GW532.out) | (rw [add_block]; exact Nat.ne_of_lt (Nat.lt_of_lt_of_le (by have := World.block_lt_of_cell? _ _ hw527_0; first | rwa [add_block] at this | exact this) GW532.out)) | (show (Addr.add _ _).block ≠ _; rw [add_block]; exact Nat.ne_of_lt (Nat.lt_of_lt_of_le (by have := World.block_lt_of_cell? _ _ hw527_0; first | rwa [add_block] at this | exact this) GW532.out)) | (dsimp only; exact Nat.ne_of_lt (Nat.lt_of_lt_of_le (by have := World.block_lt_of_cell? _ _ hw527_0; first | rwa [add_block] at this | exact this) GW532.out))) _).trans (((cell_far (p := ⟨gb532, _, none⟩) (by first | exact Nat.ne_of_lt (Nat.lt_of_lt_of_le (by have := World.block_lt_of_cell? _ _ hw527_0; first | rwa [add_block] at this | exact this) GW532.out) | (rw [add_block]; exact Nat.ne_of_lt (Nat.lt_of_lt_of_le (by have := World.block_lt_of_cell? _ _ hw527_0; first | rwa [add_block] at this | exact this) GW532.out)) | (show (Addr.add _ _).block ≠ _; rw [add_block]; exact Nat.ne_of_lt (Nat.lt_of_lt_of_le (by have := World.block_lt_of_cell? _ _ hw527_0; first | rwa [add_block] at this | exact this) GW532.out)) | (dsimp only; exact Nat.ne_of_lt (Nat.lt_of_lt_of_le (by have := World.block_lt_of_cell? _ _ hw527_0; first | rwa [add_block] at this | exact this) GW532.out))) _).trans (((cell_far (p := ⟨gb532, _, none⟩) (by first | exact Nat.ne_of_lt (Nat.lt_of_lt_of_le (by have := World.block_lt_of_cell? _ _ hw527_0; first | rwa [add_block] at this | exact this) GW532.out) | (rw [add_block]; exact Nat.ne_of_lt (Nat.lt_of_lt_of_le (by have := World.block_lt_of_cell? _ _ hw527_0; first | rwa [add_block] at this | exact this) GW532.out)) | (show (Addr.add _ _).block ≠ _; rw [add_block]; exact Nat.ne_of_lt (Nat.lt_of_lt_of_le (by have := World.block_lt_of_cell? _ _ hw527_0; first | rwa [add_block] at this | exact this) GW532.out)) | (dsimp only; exact Nat.ne_of_lt (Nat.lt_of_lt_of_le (by have := World.block_lt_of_cell? _ _ hw527_0; first | rwa [add_block] at this | exact this) GW532.out))) _).trans (((cell_far (p := ⟨gb532, _, none⟩) (by first | exact Nat.ne_of_lt (Nat.lt_of_lt_of_le (by have := World.block_lt_of_cell? _ _ hw527_0; first | rwa [add_block] at this | exact this) GW532.out) | (rw [add_block]; exact Nat.ne_of_lt (Nat.lt_of_lt_of_le (by have := World.block_lt_of_cell? _ _ hw527_0; first | rwa [add_block] at this | exact this) GW532.out)) | (show (Addr.add _ _).block ≠ _; rw [add_block]; exact Nat.ne_of_lt (Nat.lt_of_lt_of_le (by have := World.block_lt_of_cell? _ _ hw527_0; first | rwa [add_block] at this | exact this) GW532.out)) | (dsimp only; exact Nat.ne_of_lt (Nat.lt_of_lt_of_le (by have := World.block_lt_of_cell? _ _ hw527_0; first | rwa [add_block] at this | exact this) GW532.out))) _).trans (((cell_far (p := ⟨gb532, _, none⟩) (by first | exact Nat.ne_of_lt (Nat.lt_of_lt_of_le (by have := World.block_lt_of_cell? _ _ hw527_0; first | rwa [add_block] at this | exact this) GW532.out) | (rw [add_block]; exact Nat.ne_of_lt (Nat.lt_of_lt_of_le (by have := World.block_lt_of_cell? _ _ hw527_0; first | rwa [add_block] at this | exact this) GW532.out)) | (show (Addr.add _ _).block ≠ _; rw [add_block]; exact Nat.ne_of_lt (Nat.lt_of_lt_of_le (by have := World.block_lt_of_cell? _ _ hw527_0; first | rwa [add_block] at this | exact this) GW532.out)) | (dsimp only; exact Nat.ne_of_lt (Nat.lt_of_lt_of_le (by have := World.block_lt_of_cell? _ _ hw527_0; first | rwa [add_block] at this | exact this) GW532.out))) _).trans (((cell_far (p := ⟨gb532, _, none⟩) (by first | exact Nat.ne_of_lt (Nat.lt_of_lt_of_le (by have := World.block_lt_of_cell? _ _ hw527_0; first | rwa [add_block] at this | exact this) GW532.out) | (rw [add_block]; exact Nat.ne_of_lt (Nat.lt_of_lt_of_le (by have := World.block_lt_of_cell? _ _ hw527_0; first | rwa [add_block] at this | exact this) GW532.out)) | (show (Addr.add _ _).block ≠ _; rw [add_block]; exact Nat.ne_of_lt (Nat.lt_of_lt_of_le (by have := World.block_lt_of_cell? _ _ hw527_0; first | rwa [add_block] at this | exact this) GW532.out)) | (dsimp only; exact Nat.ne_of_lt (Nat.lt_of_lt_of_le (by have := World.block_lt_of_cell? _ _ hw527_0; first | rwa [add_block] at this | exact this) GW532.out))) _).trans (hHeld.1)))))))))))))), ((cell_far (p := ⟨gb532, _, none⟩) (by first | exact Nat.ne_of_lt (Nat.lt_of_lt_of_le (by have := World.block_lt_of_cell? _ _ hw528_0; first | rwa [add_block] at this | exact this) GW532.out) | (rw [add_block]; exact Nat.ne_of_lt (Nat.lt_of_lt_of_le (by have := World.block_lt_of_cell? _ _ hw528_0; first | rwa [add_block] at this | exact this) GW532.out)) | (show (Addr.add _ _).block ≠ _; rw [add_block]; exact Nat.ne_of_lt (Nat.lt_of_lt_of_le (by have := World.block_lt_of_cell? _ _ hw528_0; first | rwa [add_block] at this | exact this) GW532.out)) | (dsimp only; exact Nat.ne_of_lt (Nat.lt_of_lt_of_le (by have := World.block_lt_of_cell? _ _ hw528_0; first | rwa [add_block] at this | exact this) GW532.out))) _).trans (((cell_far (p := ⟨gb532, _, none⟩) (by first | exact Nat.ne_of_lt (Nat.lt_of_lt_of_le (by have := World.block_lt_of_cell? _ _ hw528_0; first | rwa [add_block] at this | exact this) GW532.out) | (rw [add_block]; exact Nat.ne_of_lt (Nat.lt_of_lt_of_le (by have := World.block_lt_of_cell? _ _ hw528_0; first | rwa [add_block] at this | exact this) GW532.out)) | (show (Addr.add _ _).block ≠ _; rw [add_block]; exact Nat.ne_of_lt (Nat.lt_of_lt_of_le (by have := World.block_lt_of_cell? _ _ hw528_0; first | rwa [add_block] at this | exact this) GW532.out)) | (dsimp only; exact Nat.ne_of_lt (Nat.lt_of_lt_of_le (by have := World.block_lt_of_cell? _ _ hw528_0; first | rwa [add_block] at this | exact this) GW532.out))) _).trans (((cell_far (p := ⟨gb532, _, none⟩) (by first | exact Nat.ne_of_lt (Nat.lt_of_lt_of_le (by have := World.block_lt_of_cell? _ _ hw528_0; first | rwa [add_block] at this | exact this) GW532.out) | (rw [add_block]; exact Nat.ne_of_lt (Nat.lt_of_lt_of_le (by have := World.block_lt_of_cell? _ _ hw528_0; first | rwa [add_block] at this | exact this) GW532.out)) | (show (Addr.add _ _).block ≠ _; rw [add_block]; exact Nat.ne_of_lt (Nat.lt_of_lt_of_le (by have := World.block_lt_of_cell? _ _ hw528_0; first | rwa [add_block] at this | exact this) GW532.out)) | (dsimp only; exact Nat.ne_of_lt (Nat.lt_of_lt_of_le (by have := World.block_lt_of_cell? _ _ hw528_0; first | rwa [add_block] at this | exact this) GW532.out))) _).trans (((cell_far (p := ⟨gb532, _, none⟩) (by first | exact Nat.ne_of_lt (Nat.lt_of_lt_of_le (by have := World.block_lt_of_cell? _ _ hw528_0; first | rwa [add_block] at this | exact this) GW532.out) | (rw [add_block]; exact Nat.ne_of_lt (Nat.lt_of_lt_of_le (by have := World.block_lt_of_cell? _ _ hw528_0; first | rwa [add_block] at this | exact this) GW532.out)) | (show (Addr.add _ _).block ≠ _; rw [add_block]; exact Nat.ne_of_lt (Nat.lt_of_lt_of_le (by have := World.block_lt_of_cell? _ _ hw528_0; first | rwa [add_block] at this | exact this) GW532.out)) | (dsimp only; exact Nat.ne_of_lt (Nat.lt_of_lt_of_le (by have := World.block_lt_of_cell? _ _ hw528_0; first | rwa [add_block] at this | exact this) GW532.out))) _).trans (((cell_far (p := ⟨gb532, _, none⟩) (by first | exact Nat.ne_of_lt (Nat.lt_of_lt_of_le (by have := World.block_lt_of_cell? _ _ hw528_0; first | rwa [add_block] at this | exact this) GW532.out) | (rw [add_block]; exact Nat.ne_of_lt (Nat.lt_of_lt_of_le (by have := World.block_lt_of_cell? _ _ hw528_0; first | rwa [add_block] at this | exact this) GW532.out)) | (show (Addr.add _ _).block ≠ _; rw [add_block]; exact Nat.ne_of_lt (Nat.lt_of_lt_of_le (by have := World.block_lt_of_cell? _ _ hw528_0; first | rwa [add_block] at this | exact this) GW532.out)) | (dsimp only; exact Nat.ne_of_lt (Nat.lt_of_lt_of_le (by have := World.block_lt_of_cell? _ _ hw528_0; first | rwa [add_block] at this | exact this) GW532.out))) _).trans (((cell_far (p := ⟨gb532, _, none⟩) (by first | exact Nat.ne_of_lt (Nat.lt_of_lt_of_le (by have := World.block_lt_of_cell? _ _ hw528_0; first | rwa [add_block] at this | exact this) GW532.out) | (rw [add_block]; exact Nat.ne_of_lt (Nat.lt_of_lt_of_le (by have := World.block_lt_of_cell? _ _ hw528_0; first | rwa [add_block] at this | exact this) GW532.out)) | (show (Addr.add _ _).block ≠ _; rw [add_block]; exact Nat.ne_of_lt (Nat.lt_of_lt_of_le (by have := World.block_lt_of_cell? _ _ hw528_0; first | rwa [add_block] at this | exact this) GW532.out)) | (dsimp only; exact Nat.ne_of_lt (Nat.lt_of_lt_of_le (by have := World.block_lt_of_cell? _ _ hw528_0; first | rwa [add_block] at this | exact this) GW532.out))) _).trans (((cell_far (p := ⟨gb532, _, none⟩) (by first | exact Nat.ne_of_lt (Nat.lt_of_lt_of_le (by have := World.block_lt_of_cell? _ _ hw528_0; first | rwa [add_block] at this | exact this) GW532.out) | (rw [add_block]; exact Nat.ne_of_lt (Nat.lt_of_lt_of_le (by have := World.block_lt_of_cell? _ _ hw528_0; first | rwa [add_block] at this | exact this) GW532.out)) | (show (Addr.add _ _).block ≠ _; rw [add_block]; exact Nat.ne_of_lt (Nat.lt_of_lt_of_le (by have := World.block_lt_of_cell? _ _ hw528_0; first | rwa [add_block] at this | exact this) GW532.out)) | (dsimp only; exact Nat.ne_of_lt (Nat.lt_of_lt_of_le (by have := World.block_lt_of_cell? _ _ hw528_0; first | rwa [add_block] at this | exact this) GW532.out))) _).trans (hHeld.2.1)))))))))))))), ((cell_far (p := ⟨gb532, _, none⟩) (by first | exact Nat.ne_of_lt (Nat.lt_of_lt_of_le (by have := World.block_lt_of_cell? _ _ hw529_0; first | rwa [add_block] at this | exact this) GW532.out) | (rw [add_block]; exact Nat.ne_of_lt (Nat.lt_of_lt_of_le (by have := World.block_lt_of_cell? _ _ hw529_0; first | rwa [add_block] at this | exact this) GW532.out)) | (show (Addr.add _ _).block ≠ _; rw [add_block]; exact Nat.ne_of_lt (Nat.lt_of_lt_of_le (by have := World.block_lt_of_cell? _ _ hw529_0; first | rwa [add_block] at this | exact this) GW532.out)) | (dsimp only; exact Nat.ne_of_lt (Nat.lt_of_lt_of_le (by have := World.block_lt_of_cell? _ _ hw529_0; first | rwa [add_block] at this | exact this) GW532.out))) _).trans (((cell_far (p := ⟨gb532, _, none⟩) (by first | exact Nat.ne_of_lt (Nat.lt_of_lt_of_le (by have := World.block_lt_of_cell? _ _ hw529_0; first | rwa [add_block] at this | exact this) GW532.out) | (rw [add_block]; exact Nat.ne_of_lt (Nat.lt_of_lt_of_le (by have := World.block_lt_of_cell? _ _ hw529_0; first | rwa [add_block] at this | exact this) GW532.out)) | (show (Addr.add _ _).block ≠ _; rw [add_block]; exact Nat.ne_of_lt (Nat.lt_of_lt_of_le (by have := World.block_lt_of_cell? _ _ hw529_0; first | rwa [add_block] at this | exact this) GW532.out)) | (dsimp only; exact Nat.ne_of_lt (Nat.lt_of_lt_of_le (by have := World.block_lt_of_cell? _ _ hw529_0; first | rwa [add_block] at this | exact this) GW532.out))) _).trans (((cell_far (p := ⟨gb532, _, none⟩) (by first | exact Nat.ne_of_lt (Nat.lt_of_lt_of_le (by have := World.block_lt_of_cell? _ _ hw529_0; first | rwa [add_block] at this | exact this) GW532.out) | (rw [add_block]; exact Nat.ne_of_lt (Nat.lt_of_lt_of_le (by have := World.block_lt_of_cell? _ _ hw529_0; first | rwa [add_block] at this | exact this) GW532.out)) | (show (Addr.add _ _).block ≠ _; rw [add_block]; exact Nat.ne_of_lt (Nat.lt_of_lt_of_le (by have := World.block_lt_of_cell? _ _ hw529_0; first | rwa [add_block] at this | exact this) GW532.out)) | (dsimp only; exact Nat.ne_of_lt (Nat.lt_of_lt_of_le (by have := World.block_lt_of_cell? _ _ hw529_0; first | rwa [add_block] at this | exact this) GW532.out))) _).trans (((cell_far (p := ⟨gb532, _, none⟩) (by first | exact Nat.ne_of_lt (Nat.lt_of_lt_of_le (by have := World.block_lt_of_cell? _ _ hw529_0; first | rwa [add_block] at this | exact this) GW532.out) | (rw [add_block]; exact Nat.ne_of_lt (Nat.lt_of_lt_of_le (by have := World.block_lt_of_cell? _ _ hw529_0; first | rwa [add_block] at this | exact this) GW532.out)) | (show (Addr.add _ _).block ≠ _; rw [add_block]; exact Nat.ne_of_lt (Nat.lt_of_lt_of_le (by have := World.block_lt_of_cell? _ _ hw529_0; first | rwa [add_block] at this | exact this) GW532.out)) | (dsimp only; exact Nat.ne_of_lt (Nat.lt_of_lt_of_le (by have := World.block_lt_of_cell? _ _ hw529_0; first | rwa [add_block] at this | exact this) GW532.out))) _).trans (((cell_far (p := ⟨gb532, _, none⟩) (by first | exact Nat.ne_of_lt (Nat.lt_of_lt_of_le (by have := World.block_lt_of_cell? _ _ hw529_0; first | rwa [add_block] at this | exact this) GW532.out) | (rw [add_block]; exact Nat.ne_of_lt (Nat.lt_of_lt_of_le (by have := World.block_lt_of_cell? _ _ hw529_0; first | rwa [add_block] at this | exact this) GW532.out)) | (show (Addr.add _ _).block ≠ _; rw [add_block]; exact Nat.ne_of_lt (Nat.lt_of_lt_of_le (by have := World.block_lt_of_cell? _ _ hw529_0; first | rwa [add_block] at this | exact this) GW532.out)) | (dsimp only; exact Nat.ne_of_lt (Nat.lt_of_lt_of_le (by have := World.block_lt_of_cell? _ _ hw529_0; first | rwa [add_block] at this | exact this) GW532.out))) _).trans (((cell_far (p := ⟨gb532, _, none⟩) (by first | exact Nat.ne_of_lt (Nat.lt_of_lt_of_le (by have := World.block_lt_of_cell? _ _ hw529_0; first | rwa [add_block] at this | exact this) GW532.out) | (rw [add_block]; exact Nat.ne_of_lt (Nat.lt_of_lt_of_le (by have := World.block_lt_of_cell? _ _ hw529_0; first | rwa [add_block] at this | exact this) GW532.out)) | (show (Addr.add _ _).block ≠ _; rw [add_block]; exact Nat.ne_of_lt (Nat.lt_of_lt_of_le (by have := World.block_lt_of_cell? _ _ hw529_0; first | rwa [add_block] at this | exact this) GW532.out)) | (dsimp only; exact Nat.ne_of_lt (Nat.lt_of_lt_of_le (by have := World.block_lt_of_cell? _ _ hw529_0; first | rwa [add_block] at this | exact this) GW532.out))) _).trans (((cell_far (p := ⟨gb532, _, none⟩) (by first | exact Nat.ne_of_lt (Nat.lt_of_lt_of_le (by have := World.block_lt_of_cell? _ _ hw529_0; first | rwa [add_block] at this | exact this) GW532.out) | (rw [add_block]; exact Nat.ne_of_lt (Nat.lt_of_lt_of_le (by have := World.block_lt_of_cell? _ _ hw529_0; first | rwa [add_block] at this | exact this) GW532.out)) | (show (Addr.add _ _).block ≠ _; rw [add_block]; exact Nat.ne_of_lt (Nat.lt_of_lt_of_le (by have := World.block_lt_of_cell? _ _ hw529_0; first | rwa [add_block] at this | exact this) GW532.out)) | (dsimp only; exact Nat.ne_of_lt (Nat.lt_of_lt_of_le (by have := World.block_lt_of_cell? _ _ hw529_0; first | rwa [add_block] at this | exact this) GW532.out))) _).trans (hHeld.2.2.1)))))))))))))), ((cell_far (p := ⟨gb532, _, none⟩) (by first | exact Nat.ne_of_lt (Nat.lt_of_lt_of_le (by have := World.block_lt_of_cell? _ _ hw530_0; first | rwa [add_block] at this | exact this) GW532.out) | (rw [add_block]; exact Nat.ne_of_lt (Nat.lt_of_lt_of_le (by have := World.block_lt_of_cell? _ _ hw530_0; first | rwa [add_block] at this | exact this) GW532.out)) | (show (Addr.add _ _).block ≠ _; rw [add_block]; exact Nat.ne_of_lt (Nat.lt_of_lt_of_le (by have := World.block_lt_of_cell? _ _ hw530_0; first | rwa [add_block] at this | exact this) GW532.out)) | (dsimp only; exact Nat.ne_of_lt (Nat.lt_of_lt_of_le (by have := World.block_lt_of_cell? _ _ hw530_0; first | rwa [add_block] at this | exact this) GW532.out))) _).trans (((cell_far (p := ⟨gb532, _, none⟩) (by first | exact Nat.ne_of_lt (Nat.lt_of_lt_of_le (by have := World.block_lt_of_cell? _ _ hw530_0; first | rwa [add_block] at this | exact this) GW532.out) | (rw [add_block]; exact Nat.ne_of_lt (Nat.lt_of_lt_of_le (by have := World.block_lt_of_cell? _ _ hw530_0; first | rwa [add_block] at this | exact this) GW532.out)) | (show (Addr.add _ _).block ≠ _; rw [add_block]; exact Nat.ne_of_lt (Nat.lt_of_lt_of_le (by have := World.block_lt_of_cell? _ _ hw530_0; first | rwa [add_block] at this | exact this) GW532.out)) | (dsimp only; exact Nat.ne_of_lt (Nat.lt_of_lt_of_le (by have := World.block_lt_of_cell? _ _ hw530_0; first | rwa [add_block] at this | exact this) GW532.out))) _).trans (((cell_far (p := ⟨gb532, _, none⟩) (by first | exact Nat.ne_of_lt (Nat.lt_of_lt_of_le (by have := World.block_lt_of_cell? _ _ hw530_0; first | rwa [add_block] at this | exact this) GW532.out) | (rw [add_block]; exact Nat.ne_of_lt (Nat.lt_of_lt_of_le (by have := World.block_lt_of_cell? _ _ hw530_0; first | rwa [add_block] at this | exact this) GW532.out)) | (show (Addr.add _ _).block ≠ _; rw [add_block]; exact Nat.ne_of_lt (Nat.lt_of_lt_of_le (by have := World.block_lt_of_cell? _ _ hw530_0; first | rwa [add_block] at this | exact this) GW532.out)) | (dsimp only; exact Nat.ne_of_lt (Nat.lt_of_lt_of_le (by have := World.block_lt_of_cell? _ _ hw530_0; first | rwa [add_block] at this | exact this) GW532.out))) _).trans (((cell_far (p := ⟨gb532, _, none⟩) (by first | exact Nat.ne_of_lt (Nat.lt_of_lt_of_le (by have := World.block_lt_of_cell? _ _ hw530_0; first | rwa [add_block] at this | exact this) GW532.out) | (rw [add_block]; exact Nat.ne_of_lt (Nat.lt_of_lt_of_le (by have := World.block_lt_of_cell? _ _ hw530_0; first | rwa [add_block] at this | exact this) GW532.out)) | (show (Addr.add _ _).block ≠ _; rw [add_block]; exact Nat.ne_of_lt (Nat.lt_of_lt_of_le (by have := World.block_lt_of_cell? _ _ hw530_0; first | rwa [add_block] at this | exact this) GW532.out)) | (dsimp only; exact Nat.ne_of_lt (Nat.lt_of_lt_of_le (by have := World.block_lt_of_cell? _ _ hw530_0; first | rwa [add_block] at this | exact this) GW532.out))) _).trans (((cell_far (p := ⟨gb532, _, none⟩) (by first | exact Nat.ne_of_lt (Nat.lt_of_lt_of_le (by have := World.block_lt_of_cell? _ _ hw530_0; first | rwa [add_block] at this | exact this) GW532.out) | (rw [add_block]; exact Nat.ne_of_lt (Nat.lt_of_lt_of_le (by have := World.block_lt_of_cell? _ _ hw530_0; first | rwa [add_block] at this | exact this) GW532.out)) | (show (Addr.add _ _).block ≠ _; rw [add_block]; exact Nat.ne_of_lt (Nat.lt_of_lt_of_le (by have := World.block_lt_of_cell? _ _ hw530_0; first | rwa [add_block] at this | exact this) GW532.out)) | (dsimp only; exact Nat.ne_of_lt (Nat.lt_of_lt_of_le (by have := World.block_lt_of_cell? _ _ hw530_0; first | rwa [add_block] at this | exact this) GW532.out))) _).trans (((cell_far (p := ⟨gb532, _, none⟩) (by first | exact Nat.ne_of_lt (Nat.lt_of_lt_of_le (by have := World.block_lt_of_cell? _ _ hw530_0; first | rwa [add_block] at this | exact this) GW532.out) | (rw [add_block]; exact Nat.ne_of_lt (Nat.lt_of_lt_of_le (by have := World.block_lt_of_cell? _ _ hw530_0; first | rwa [add_block] at this | exact this) GW532.out)) | (show (Addr.add _ _).block ≠ _; rw [add_block]; exact Nat.ne_of_lt (Nat.lt_of_lt_of_le (by have := World.block_lt_of_cell? _ _ hw530_0; first | rwa [add_block] at this | exact this) GW532.out)) | (dsimp only; exact Nat.ne_of_lt (Nat.lt_of_lt_of_le (by have := World.block_lt_of_cell? _ _ hw530_0; first | rwa [add_block] at this | exact this) GW532.out))) _).trans (((cell_far (p := ⟨gb532, _, none⟩) (by first | exact Nat.ne_of_lt (Nat.lt_of_lt_of_le (by have := World.block_lt_of_cell? _ _ hw530_0; first | rwa [add_block] at this | exact this) GW532.out) | (rw [add_block]; exact Nat.ne_of_lt (Nat.lt_of_lt_of_le (by have := World.block_lt_of_cell? _ _ hw530_0; first | rwa [add_block] at this | exact this) GW532.out)) | (show (Addr.add _ _).block ≠ _; rw [add_block]; exact Nat.ne_of_lt (Nat.lt_of_lt_of_le (by have := World.block_lt_of_cell? _ _ hw530_0; first | rwa [add_block] at this | exact this) GW532.out)) | (dsimp only; exact Nat.ne_of_lt (Nat.lt_of_lt_of_le (by have := World.block_lt_of_cell? _ _ hw530_0; first | rwa [add_block] at this | exact this) GW532.out))) _).trans (hHeld.2.2.2.1)))))))))))))), ((cell_far (p := ⟨gb532, _, none⟩) (by first | exact Nat.ne_of_lt (Nat.lt_of_lt_of_le (by have := World.block_lt_of_cell? _ _ hw531_0; first | rwa [add_block] at this | exact this) GW532.out) | (rw [add_block]; exact Nat.ne_of_lt (Nat.lt_of_lt_of_le (by have := World.block_lt_of_cell? _ _ hw531_0; first | rwa [add_block] at this | exact this) GW532.out)) | (show (Addr.add _ _).block ≠ _; rw [add_block]; exact Nat.ne_of_lt (Nat.lt_of_lt_of_le (by have := World.block_lt_of_cell? _ _ hw531_0; first | rwa [add_block] at this | exact this) GW532.out)) | (dsimp only; exact Nat.ne_of_lt (Nat.lt_of_lt_of_le (by have := World.block_lt_of_cell? _ _ hw531_0; first | rwa [add_block] at this | exact this) GW532.out))) _).trans (((cell_far (p := ⟨gb532, _, none⟩) (by first | exact Nat.ne_of_lt (Nat.lt_of_lt_of_le (by have := World.block_lt_of_cell? _ _ hw531_0; first | rwa [add_block] at this | exact this) GW532.out) | (rw [add_block]; exact Nat.ne_of_lt (Nat.lt_of_lt_of_le (by have := World.block_lt_of_cell? _ _ hw531_0; first | rwa [add_block] at this | exact this) GW532.out)) | (show (Addr.add _ _).block ≠ _; rw [add_block]; exact Nat.ne_of_lt (Nat.lt_of_lt_of_le (by have := World.block_lt_of_cell? _ _ hw531_0; first | rwa [add_block] at this | exact this) GW532.out)) | (dsimp only; exact Nat.ne_of_lt (Nat.lt_of_lt_of_le (by have := World.block_lt_of_cell? _ _ hw531_0; first | rwa [add_block] at this | exact this) GW532.out))) _).trans (((cell_far (p := ⟨gb532, _, none⟩) (by first | exact Nat.ne_of_lt (Nat.lt_of_lt_of_le (by have := World.block_lt_of_cell? _ _ hw531_0; first | rwa [add_block] at this | exact this) GW532.out) | (rw [add_block]; exact Nat.ne_of_lt (Nat.lt_of_lt_of_le (by have := World.block_lt_of_cell? _ _ hw531_0; first | rwa [add_block] at this | exact this) GW532.out)) | (show (Addr.add _ _).block ≠ _; rw [add_block]; exact Nat.ne_of_lt (Nat.lt_of_lt_of_le (by have := World.block_lt_of_cell? _ _ hw531_0; first | rwa [add_block] at this | exact this) GW532.out)) | (dsimp only; exact Nat.ne_of_lt (Nat.lt_of_lt_of_le (by have := World.block_lt_of_cell? _ _ hw531_0; first | rwa [add_block] at this | exact this) GW532.out))) _).trans (((cell_far (p := ⟨gb532, _, none⟩) (by first | exact Nat.ne_of_lt (Nat.lt_of_lt_of_le (by have := World.block_lt_of_cell? _ _ hw531_0; first | rwa [add_block] at this | exact this) GW532.out) | (rw [add_block]; exact Nat.ne_of_lt (Nat.lt_of_lt_of_le (by have := World.block_lt_of_cell? _ _ hw531_0; first | rwa [add_block] at this | exact this) GW532.out)) | (show (Addr.add _ _).block ≠ _; rw [add_block]; exact Nat.ne_of_lt (Nat.lt_of_lt_of_le (by have := World.block_lt_of_cell? _ _ hw531_0; first | rwa [add_block] at this | exact this) GW532.out)) | (dsimp only; exact Nat.ne_of_lt (Nat.lt_of_lt_of_le (by have := World.block_lt_of_cell? _ _ hw531_0; first | rwa [add_block] at this | exact this) GW532.out))) _).trans (((cell_far (p := ⟨gb532, _, none⟩) (by first | exact Nat.ne_of_lt (Nat.lt_of_lt_of_le (by have := World.block_lt_of_cell? _ _ hw531_0; first | rwa [add_block] at this | exact this) GW532.out) | (rw [add_block]; exact Nat.ne_of_lt (Nat.lt_of_lt_of_le (by have := World.block_lt_of_cell? _ _ hw531_0; first | rwa [add_block] at this | exact this) GW532.out)) | (show (Addr.add _ _).block ≠ _; rw [add_block]; exact Nat.ne_of_lt (Nat.lt_of_lt_of_le (by have := World.block_lt_of_cell? _ _ hw531_0; first | rwa [add_block] at this | exact this) GW532.out)) | (dsimp only; exact Nat.ne_of_lt (Nat.lt_of_lt_of_le (by have := World.block_lt_of_cell? _ _ hw531_0; first | rwa [add_block] at this | exact this) GW532.out))) _).trans (((cell_far (p := ⟨gb532, _, none⟩) (by first | exact Nat.ne_of_lt (Nat.lt_of_lt_of_le (by have := World.block_lt_of_cell? _ _ hw531_0; first | rwa [add_block] at this | exact this) GW532.out) | (rw [add_block]; exact Nat.ne_of_lt (Nat.lt_of_lt_of_le (by have := World.block_lt_of_cell? _ _ hw531_0; first | rwa [add_block] at this | exact this) GW532.out)) | (show (Addr.add _ _).block ≠ _; rw [add_block]; exact Nat.ne_of_lt (Nat.lt_of_lt_of_le (by have := World.block_lt_of_cell? _ _ hw531_0; first | rwa [add_block] at this | exact this) GW532.out)) | (dsimp only; exact Nat.ne_of_lt (Nat.lt_of_lt_of_le (by have := World.block_lt_of_cell? _ _ hw531_0; first | rwa [add_block] at this | exact this) GW532.out))) _).trans (((cell_far (p := ⟨gb532, _, none⟩) (by first | exact Nat.ne_of_lt (Nat.lt_of_lt_of_le (by have := World.block_lt_of_cell? _ _ hw531_0; first | rwa [add_block] at this | exact this) GW532.out) | (rw [add_block]; exact Nat.ne_of_lt (Nat.lt_of_lt_of_le (by have := World.block_lt_of_cell? _ _ hw531_0; first | rwa [add_block] at this | exact this) GW532.out)) | (show (Addr.add _ _).block ≠ _; rw [add_block]; exact Nat.ne_of_lt (Nat.lt_of_lt_of_le (by have := World.block_lt_of_cell? _ _ hw531_0; first | rwa [add_block] at this | exact this) GW532.out)) | (dsimp only; exact Nat.ne_of_lt (Nat.lt_of_lt_of_le (by have := World.block_lt_of_cell? _ _ hw531_0; first | rwa [add_block] at this | exact this) GW532.out))) _).trans (hHeld.2.2.2.2))))))))))))))⟩ (fun hHeld => ?_)
 clear hK K
 refine done_ (done_of HT_.out (by kernel_rfl)) ?_
 try go_wp2
 go_loopg [5] k (fun kq v5 w' => ∃ (x5_1 : Int) (x533005_1 : List Int) (u533005 : Value), v5 = .int .i64 x5_1 ∧ Aside0 (selvedgeref18_Decode.l0 kq l0 x5_1 (wrap64 (rd l0 1)) (wrap64 (rd l0 2)) (wrap64 (rd l0 3)) (wrap64 (rd l0 4)) (wrap64 (rd l0 5)) x533005_1 = some (r1, r2, r3, r4, r5, r6, r7, r8)) ∧ Aside0 (kq ≤ k) ∧ Aside0 (Kd.R (Kd.int .i64) 3 w' w.heap.size (fun _ => True) u533005 x533005_1) ∧ Aside0 (w'.heap[gb526]? = some (.cells #[.int .i64 0, .int .i64 0, .int .i64 0, .int .i64 0, .int .i64 0, (.slice none 0 0), (.slice none 0 0)] 42 (0, 0))) ∧ Aside0 (w'.heap[gb532]? = some (.cells #[.int .i64 (wrap64 (rd l0 1)), .int .i64 (wrap64 (rd l0 2)), .int .i64 (wrap64 (rd l0 3)), .int .i64 (wrap64 (rd l0 4)), .int .i64 (wrap64 (rd l0 5)), u533005, (.slice none 0 0)] 42 (0, 0))) ∧ Aside0 (Below w.heap.size w w'))
 case atStart => exact ⟨(0), (([] : List Int)), (.slice none 0 0), (by first | rfl | (simp; done) | (simp [*]; done)), H', ⟨Nat.le_refl _⟩, ⟨by first | exact Kd.R_nil _ _ _ _ _ | exact Kd.N_nil _ _ _ _ _ | exact Kd.V_nil _ _ _ _ _ | exact Kd.Q_nil _ _ _ _ _ | exact Kd.S_nil _ _ _ _ _⟩, ⟨by (with_reducible repeat (first | refine blk_drewN ?_ _ | refine blk_drew ?_ | refine blk_alloc ?_ _)); refine blk_far ?_ NB526_532.out _; (with_reducible repeat (first | refine blk_drewN ?_ _ | refine blk_drew ?_ | refine blk_alloc ?_ _)); refine blk_far ?_ NB526_532.out _; (with_reducible repeat (first | refine blk_drewN ?_ _ | refine blk_drew ?_ | refine blk_alloc ?_ _)); refine blk_far ?_ NB526_532.out _; (with_reducible repeat (first | refine blk_drewN ?_ _ | refine blk_drew ?_ | refine blk_alloc ?_ _)); refine blk_far ?_ NB526_532.out _; (with_reducible repeat (first | refine blk_drewN ?_ _ | refine blk_drew ?_ | refine blk_alloc ?_ _)); refine blk_far ?_ NB526_532.out _; (with_reducible repeat (first | refine blk_drewN ?_ _ | refine blk_drew ?_ | refine blk_alloc ?_ _)); refine blk_far ?_ NB526_532.out _; (with_reducible repeat (first | refine blk_drewN ?_ _ | refine blk_drew ?_ | refine blk_alloc ?_ _)); refine blk_far ?_ NB526_532.out _; (with_reducible repeat (first | refine blk_drewN ?_ _ | refine blk_drew ?_ | refine blk_alloc ?_ _)); exact BK526.out⟩, ⟨by (with_reducible repeat (first | refine blk_drewN ?_ _ | refine blk_drew ?_ | refine blk_alloc ?_ _)); refine blk_put (cs := #[.int .i64 (wrap64 (rd l0 1)), .int .i64 (wrap64 (rd l0 2)), .int .i64 (wrap64 (rd l0 3)), .int .i64 (wrap64 (rd l0 4)), .int .i64 (wrap64 (rd l0 5)), .slice none 0 0, .slice none 0 0]) ?_ 6 _ rfl; (with_reducible repeat (first | refine blk_drewN ?_ _ | refine blk_drew ?_ | refine blk_alloc ?_ _)); refine blk_put (cs := #[.int .i64 (wrap64 (rd l0 1)), .int .i64 (wrap64 (rd l0 2)), .int .i64 (wrap64 (rd l0 3)), .int .i64 (wrap64 (rd l0 4)), .int .i64 (wrap64 (rd l0 5)), .slice none 0 0, .slice none 0 0]) ?_ 5 _ rfl; (with_reducible repeat (first | refine blk_drewN ?_ _ | refine blk_drew ?_ | refine blk_alloc ?_ _)); refine blk_put (cs := #[.int .i64 (wrap64 (rd l0 1)), .int .i64 (wrap64 (rd l0 2)), .int .i64 (wrap64 (rd l0 3)), .int .i64 (wrap64 (rd l0 4)), .int .i64 0, .slice none 0 0, .slice none 0 0]) ?_ 4 _ rfl; (with_reducible repeat (first | refine blk_drewN ?_ _ | refine blk_drew ?_ | refine blk_alloc ?_ _)); refine blk_put (cs := #[.int .i64 (wrap64 (rd l0 1)), .int .i64 (wrap64 (rd l0 2)), .int .i64 (wrap64 (rd l0 3)), .int .i64 0, .int .i64 0, .slice none 0 0, .slice none 0 0]) ?_ 3 _ rfl; (with_reducible repeat (first | refine blk_drewN ?_ _ | refine blk_drew ?_ | refine blk_alloc ?_ _)); refine blk_put (cs := #[.int .i64 (wrap64 (rd l0 1)), .int .i64 (wrap64 (rd l0 2)), .int .i64 0, .int .i64 0, .int .i64 0, .slice none 0 0, .slice none 0 0]) ?_ 2 _ rfl; (with_reducible repeat (first | refine blk_drewN ?_ _ | refine blk_drew ?_ | refine blk_alloc ?_ _)); refine blk_put (cs := #[.int .i64 (wrap64 (rd l0 1)), .int .i64 0, .int .i64 0, .int .i64 0, .int .i64 0, .slice none 0 0, .slice none 0 0]) ?_ 1 _ rfl; (with_reducible repeat (first | refine blk_drewN ?_ _ | refine blk_drew ?_ | refine blk_alloc ?_ _)); refine blk_put (cs := #[.int .i64 0, .int .i64 0, .int .i64 0, .int .i64 0, .int .i64 0, .slice none 0 0, .slice none 0 0]) ?_ 0 _ rfl; (with_reducible repeat (first | refine blk_drewN ?_ _ | refine blk_drew ?_ | refine blk_alloc ?_ _)); exact BK532.out⟩, ⟨bs HB (by simp [ag, GE526.out, GE532.out])⟩⟩
 case round =>
  clear H'
  try clear c2
  try clear c2b0
  try clear c2b1
  try clear p2
  try clear c3
  try clear c3b0
  try clear c3b1
  try clear c4
  try clear c4b0
  try clear c4b1
  try clear c5
  try clear c5b0
  try clear c5b1
  try clear p5
  try clear q5
  try clear hx5
  try clear qi5
  try clear c6
  try clear c6b0
  try clear c6b1
  try clear p6
  try clear c7
  try clear c7b0
  try clear c7b1
  try clear hx527_0
  try clear hx528_0
  try clear hx529_0
  try clear hx530_0
  try clear hx531_0
  try clear p527
  try clear p528
  try clear p529
  try clear p530
  try clear p531
  try clear q527
  try clear q528
  try clear q529
  try clear q530
  try clear q531
  obtain ⟨x5_1, x533005_1, u533005, rfl, HA, HK1, HO_533005, BK526, BK532, HB⟩ := hrel
  cases gk with
  | zero => exact absurd HA.out (by simp [selvedgeref18_Decode.l0])
  | succ k1 =>
   have H := HA.out
   clear HA
   simp only [selvedgeref18_Decode.l0] at H
   by_cases c18 : x5_1 < 64
   ·rw [if_pos c18] at H
    have c18b0 : decide (x5_1 < 64) = true := decide_eq_true c18
    clear c18
    obtain ⟨ji19, hji19⟩ : ∃ j_ : Int, (wrap64 (6 + (wrap64 (Int.tdiv x5_1 8)))) = j_ := ⟨_, rfl⟩
    replace H : (if 0 ≤ (ji19) then (if (ji19) < (l0.length : Int) then (if 0 ≤ (Int.tmod x5_1 8) then (if (Go.bits .and .u8 (shr .u8 (rd l0 (ji19)) (Int.tmod x5_1 8)) 1) = 1 then (if x533005_1.length < 17592186044416 then (selvedgeref18_Decode.l0 k1 l0 (wrap64 (x5_1 + 1)) (wrap64 (rd l0 1)) (wrap64 (rd l0 2)) (wrap64 (rd l0 3)) (wrap64 (rd l0 4)) (wrap64 (rd l0 5)) (x533005_1 ++ [x5_1])) else (none)) else (selvedgeref18_Decode.l0 k1 l0 (wrap64 (x5_1 + 1)) (wrap64 (rd l0 1)) (wrap64 (rd l0 2)) (wrap64 (rd l0 3)) (wrap64 (rd l0 4)) (wrap64 (rd l0 5)) x533005_1)) else (none)) else (none)) else (none)) = some (r1, r2, r3, r4, r5, r6, r7, r8) := by first | (rw [hji19] at H; exact H) | (simp only [hji19] at H ⊢; exact H)
    have hji19w : (IntKind.i64.wrap (6 + (wrap64 (Int.tdiv x5_1 8)))) = ji19 := (i64_w _).trans hji19
    by_cases c20 : 0 ≤ (ji19)
    rotate_left
    ·rw [if_neg c20] at H
     exact absurd H (by simp)
    rw [if_pos c20] at H
    have c20b0 : decide (0 ≤ (ji19)) = true := decide_eq_true c20
    clear c20
    by_cases c21 : (ji19) < (l0.length : Int)
    rotate_left
    ·rw [if_neg c21] at H
     exact absurd H (by simp)
    rw [if_pos c21] at H
    have c21b0 : decide ((ji19) < (l0.length : Int)) = true := decide_eq_true c21
    clear c21
    obtain ⟨ji22, hji22⟩ : ∃ j_ : Int, (Int.tmod x5_1 8) = j_ := ⟨_, rfl⟩
    replace H : (if 0 ≤ (ji22) then (if (Go.bits .and .u8 (shr .u8 (rd l0 (ji19)) (ji22)) 1) = 1 then (if x533005_1.length < 17592186044416 then (selvedgeref18_Decode.l0 k1 l0 (wrap64 (x5_1 + 1)) (wrap64 (rd l0 1)) (wrap64 (rd l0 2)) (wrap64 (rd l0 3)) (wrap64 (rd l0 4)) (wrap64 (rd l0 5)) (x533005_1 ++ [x5_1])) else (none)) else (selvedgeref18_Decode.l0 k1 l0 (wrap64 (x5_1 + 1)) (wrap64 (rd l0 1)) (wrap64 (rd l0 2)) (wrap64 (rd l0 3)) (wrap64 (rd l0 4)) (wrap64 (rd l0 5)) x533005_1)) else (none)) = some (r1, r2, r3, r4, r5, r6, r7, r8) := by first | (rw [hji22] at H; exact H) | (simp only [hji22] at H ⊢; exact H)
    by_cases c23 : 0 ≤ (ji22)
    rotate_left
    ·rw [if_neg c23] at H
     exact absurd H (by simp)
    rw [if_pos c23] at H
    have c23b0 := eq_true c23
    have c23b1 : decide (0 ≤ (ji22)) = true := decide_eq_true c23
    clear c23
    obtain ⟨ji24, hji24⟩ : ∃ j_ : Int, (shr .u8 (rd l0 (ji19)) (ji22)) = j_ := ⟨_, rfl⟩
    replace H : (if (Go.bits .and .u8 (ji24) 1) = 1 then (if x533005_1.length < 17592186044416 then (selvedgeref18_Decode.l0 k1 l0 (wrap64 (x5_1 + 1)) (wrap64 (rd l0 1)) (wrap64 (rd l0 2)) (wrap64 (rd l0 3)) (wrap64 (rd l0 4)) (wrap64 (rd l0 5)) (x533005_1 ++ [x5_1])) else (none)) else (selvedgeref18_Decode.l0 k1 l0 (wrap64 (x5_1 + 1)) (wrap64 (rd l0 1)) (wrap64 (rd l0 2)) (wrap64 (rd l0 3)) (wrap64 (rd l0 4)) (wrap64 (rd l0 5)) x533005_1)) = some (r1, r2, r3, r4, r5, r6, r7, r8) := by first | (rw [hji24] at H; exact H) | (simp only [hji24] at H ⊢; exact H)
    have hji24_ : ((rd l0 (ji19)) / 2 ^ min (ji22).toNat 8) = ji24 := hji24
    have hji24z : (ji22) ≤ 8 → ((rd l0 (ji19)) / 2 ^ (ji22).toNat) = ji24 := shr_small hji24
    by_cases c25 : (Go.bits .and .u8 (ji24) 1) = 1
    rotate_left
    ·rw [if_neg c25] at H
     have c25b0 : ((Go.bits .and .u8 (ji24) 1) == 1) = false := beq_eq_false_iff_ne.mpr c25
     have c25b1 : ((Go.bits .and .u8 (ji24) 1) != 1) = true := bne_iff_ne.mpr c25
     have H' := Aside0.mk H
     clear H
     have p533 : 0 ≤ ((ji19) : Int) := of_decide_eq_true (by first | with_reducible assumption | assumption)
     have q533 : (ji19) < (l0.length : Int) := of_decide_eq_true (by first | with_reducible assumption | assumption)
     obtain ⟨ad533, e533, hx533_0⟩ := Kd.at_int HR0.out (ji19) p533 q533
     obtain rfl : ad527 = ad533 := (by injection e533)
     replace hx533_0 := pw_cell_below HB.out hx533_0
     replace p533 := eq_true p533
     replace q533 := eq_true q533
     go_wp2
     go_roundg k1
     case measure => have := HK1.out; omega
     case rel => exact ⟨(wrap64 (x5_1 + 1)), (x533005_1), (u533005), (by first | rfl | (simp; done) | (simp [*]; done)), H', ⟨by have := HK1.out; omega⟩, ⟨rk HO_533005⟩, ⟨bk BK526⟩, ⟨bk BK532⟩, ⟨bs HB (by simp [ag, GE526.out, GE532.out])⟩⟩
    rw [if_pos c25] at H
    have c25b0 : ((Go.bits .and .u8 (ji24) 1) == 1) = true := beq_iff_eq.mpr c25
    have c25b1 : ((Go.bits .and .u8 (ji24) 1) != 1) = false := bne_eq_false_iff_eq.mpr c25
    clear c25
    by_cases c26 : x533005_1.length < 17592186044416
    rotate_left
    ·rw [if_neg c26] at H
     exact absurd H (by simp)
    rw [if_pos c26] at H
    have LMc26 := Aside0.mk c26
    clear c26
    obtain ⟨y534, hy534⟩ : ∃ y_ : List Int, y_ = (x533005_1 ++ [x5_1]) := ⟨_, rfl⟩
    replace H : (selvedgeref18_Decode.l0 k1 l0 (wrap64 (x5_1 + 1)) (wrap64 (rd l0 1)) (wrap64 (rd l0 2)) (wrap64 (rd l0 3)) (wrap64 (rd l0 4)) (wrap64 (rd l0 5)) y534) = some (r1, r2, r3, r4, r5, r6, r7, r8) := by first | (rw [hy534]; with_reducible exact H) | (have H2_ := (Option.bind_some _ _).symm.trans H; rw [hy534]; with_reducible exact H2_) | (have H2_ := (Option.bind_some _ _).symm.trans H; with_reducible exact H2_) | with_reducible exact H | (rw [hy534]; exact H) | exact H
    have Ny534 := Aside0.mk hy534
    clear hy534
    have H' := Aside0.mk H
    clear H
    have p533 : 0 ≤ ((ji19) : Int) := of_decide_eq_true (by first | with_reducible assumption | assumption)
    have q533 : (ji19) < (l0.length : Int) := of_decide_eq_true (by first | with_reducible assumption | assumption)
    obtain ⟨ad533, e533, hx533_0⟩ := Kd.at_int HR0.out (ji19) p533 q533
    obtain rfl : ad527 = ad533 := (by injection e533)
    replace hx533_0 := pw_cell_below HB.out hx533_0
    replace p533 := eq_true p533
    replace q533 := eq_true q533
    have hnb27 := NB532_526.out
    have hnc27 := NB526_532.out
    obtain ⟨hcz28_0, hcz28_1, hcz28_2, hcz28_3, hcz28_4, hcz28_5, hcz28_6, hfz28_0, hfz28_1, hfz28_2, hfz28_3, hfz28_4, hfz28_5, hfz28_6⟩ := cf7 BK532
    go_wp2_with (first | ((with_reducible refine gate_builtin (b := .append) (xs := #[.tmp 50, .tmp 52]) rfl ?_); at_builtin; refine Kd.R_append (Kd.int .i64) (w0 := w) w.heap.size rfl (.tmp 50) (.tmp 52) 40 3 (.int .i64 0) 8 rfl Try.underlying40 info3 rfl (by decide) (by omega) u533005 x533005_1 x5_1 [.int .i64 x5_1] (fun _ => True) (fun _ => False) rfl rfl ?aP (fun _ hk => hk.elim) ?aF ?aO ?aB ?aS ?aL ?_; (case aP => exact rfl); (case aB => exact (bs HB (by simp [ag, GE526.out, GE532.out]))); (case aF => exact (fun _ _ => trivial)); (case aO => exact (rk HO_533005)); (case aS => exact (below_size (bs HB (by simp [ag, GE526.out, GE532.out])))); (case aL => have := LMc26.out; omega); intro v535 w29 ho hb hg hat; rw [← Ny534.out] at ho; replace BK526 := Aside0.mk (blk_grown (g := gb526) (o := .cells #[.int .i64 0, .int .i64 0, .int .i64 0, .int .i64 0, .int .i64 0, .slice none 0 0, .slice none 0 0] 42 (0, 0)) (bk BK526) hg (Kd.R_ne HO_533005.out BK526.out (by decide))); replace BK532 := Aside0.mk (blk_grown (g := gb532) (o := .cells #[.int .i64 (wrap64 (rd l0 1)), .int .i64 (wrap64 (rd l0 2)), .int .i64 (wrap64 (rd l0 3)), .int .i64 (wrap64 (rd l0 4)), .int .i64 (wrap64 (rd l0 5)), u533005, .slice none 0 0] 42 (0, 0)) (bk BK532) hg (Kd.R_ne HO_533005.out BK532.out (by decide))); replace HB := Aside0.mk (hb); have HO536 := Aside0.mk (ho); clear HO_533005; clear ho hb hg hat; obtain ⟨Ao30, co30, eo30⟩ := Kd.R_slice HO536.out; subst eo30; obtain ⟨hcz31_0, hcz31_1, hcz31_2, hcz31_3, hcz31_4, hcz31_5, hcz31_6, hfz31_0, hfz31_1, hfz31_2, hfz31_3, hfz31_4, hfz31_5, hfz31_6⟩ := cf7 BK532))
    go_roundg k1
    case measure => have := HK1.out; omega
    case rel => exact ⟨(wrap64 (x5_1 + 1)), (y534), (.slice Ao30 y534.length co30), (by first | rfl | (simp; done) | (simp [*]; done)), H', ⟨by have := HK1.out; omega⟩, ⟨by (with_reducible repeat (first | apply Kd.R_alloc | apply Kd.R_drewN | apply Kd.R_drew)); exact Kd.R_mono (Kd.R_far (p := ⟨gb532, 5, none⟩) (Kd.R_types HO536.out BK532.out (by decide)) (fun _ hk => hk.2) (.slice Ao30 y534.length co30)) (fun _ hk => trivial)⟩, ⟨by (with_reducible repeat (first | refine blk_drewN ?_ _ | refine blk_drew ?_ | refine blk_alloc ?_ _)); refine blk_far ?_ NB526_532.out _; (with_reducible repeat (first | refine blk_drewN ?_ _ | refine blk_drew ?_ | refine blk_alloc ?_ _)); exact BK526.out⟩, ⟨by (with_reducible repeat (first | refine blk_drewN ?_ _ | refine blk_drew ?_ | refine blk_alloc ?_ _)); refine blk_put (cs := #[.int .i64 (wrap64 (rd l0 1)), .int .i64 (wrap64 (rd l0 2)), .int .i64 (wrap64 (rd l0 3)), .int .i64 (wrap64 (rd l0 4)), .int .i64 (wrap64 (rd l0 5)), u533005, .slice none 0 0]) ?_ 5 _ rfl; (with_reducible repeat (first | refine blk_drewN ?_ _ | refine blk_drew ?_ | refine blk_alloc ?_ _)); exact BK532.out⟩, ⟨bs HB (by simp [ag, GE526.out, GE532.out])⟩⟩
   rw [if_neg c18] at H
   have c18b0 : decide (x5_1 < 64) = false := decide_eq_false c18
   clear c18
   have H' := Aside0.mk H
   clear H
   go_wp2
   go_loopg [6] k1 (fun kq v6 w' => ∃ (x6_2 : Int) (x533006_2 : List Int) (u533006 : Value), v6 = .int .i64 x6_2 ∧ Aside0 (selvedgeref18_Decode.l1 kq l0 x6_2 (wrap64 (rd l0 1)) (wrap64 (rd l0 2)) (wrap64 (rd l0 3)) (wrap64 (rd l0 4)) (wrap64 (rd l0 5)) x533005_1 x533006_2 = some (r1, r2, r3, r4, r5, r6, r7, r8)) ∧ Aside0 (kq ≤ k1) ∧ Aside0 (Kd.R (Kd.int .i64) 3 w' w.heap.size (fun k_ => some k_ ≠ (u533006 : Value).ownBlock) u533005 x533005_1) ∧ Aside0 (Kd.R (Kd.int .i64) 3 w' w.heap.size (fun k_ => some k_ ≠ (u533005 : Value).ownBlock) u533006 x533006_2) ∧ Aside0 (w'.heap[gb526]? = some (.cells #[.int .i64 0, .int .i64 0, .int .i64 0, .int .i64 0, .int .i64 0, (.slice none 0 0), (.slice none 0 0)] 42 (0, 0))) ∧ Aside0 (w'.heap[gb532]? = some (.cells #[.int .i64 (wrap64 (rd l0 1)), .int .i64 (wrap64 (rd l0 2)), .int .i64 (wrap64 (rd l0 3)), .int .i64 (wrap64 (rd l0 4)), .int .i64 (wrap64 (rd l0 5)), u533005, u533006] 42 (0, 0))) ∧ Aside0 (Below w.heap.size w w'))
   case atStart => exact ⟨(0), (([] : List Int)), (.slice none 0 0), (by first | rfl | (simp; done) | (simp [*]; done)), H', ⟨Nat.le_refl _⟩, ⟨Kd.R_mono (rk HO_533005) (fun _ hk => (by simp [Value.ownBlock]))⟩, ⟨by first | exact Kd.R_nil _ _ _ _ _ | exact Kd.N_nil _ _ _ _ _ | exact Kd.V_nil _ _ _ _ _ | exact Kd.Q_nil _ _ _ _ _ | exact Kd.S_nil _ _ _ _ _⟩, ⟨bk BK526⟩, ⟨bk BK532⟩, ⟨bs HB (by simp [ag, GE526.out, GE532.out])⟩⟩
   case round =>
    clear H'
    try clear c1
    try clear c2
    try clear c2b0
    try clear c2b1
    try clear p2
    try clear c3
    try clear c3b0
    try clear c3b1
    try clear c4
    try clear c4b0
    try clear c4b1
    try clear c5
    try clear c5b0
    try clear c5b1
    try clear p5
    try clear q5
    try clear hx5
    try clear qi5
    try clear c6
    try clear c6b0
    try clear c6b1
    try clear p6
    try clear c7
    try clear c7b0
    try clear c7b1
    try clear c18
    try clear c18b0
    try clear c20
    try clear c20b0
    try clear c21
    try clear c21b0
    try clear c23
    try clear c23b0
    try clear c23b1
    try clear c25
    try clear c25b0
    try clear c25b1
    try clear c26
    try clear c27
    try clear hcz28_0
    try clear hcz28_1
    try clear hcz28_2
    try clear hcz28_3
    try clear hcz28_4
    try clear hcz28_5
    try clear hcz28_6
    try clear hcz31_0
    try clear hcz31_1
    try clear hcz31_2
    try clear hcz31_3
    try clear hcz31_4
    try clear hcz31_5
    try clear hcz31_6
    try clear hfz28_0
    try clear hfz28_1
    try clear hfz28_2
    try clear hfz28_3
    try clear hfz28_4
    try clear hfz28_5
    try clear hfz28_6
    try clear hfz31_0
    try clear hfz31_1
    try clear hfz31_2
    try clear hfz31_3
    try clear hfz31_4
    try clear hfz31_5
    try clear hfz31_6
    try clear hx527_0
    try clear hx528_0
    try clear hx529_0
    try clear hx530_0
    try clear hx531_0
    try clear hx533_0
    try clear p2
    try clear p5
    try clear p527
    try clear p528
    try clear p529
    try clear p530
    try clear p531
    try clear p533
    try clear p6
    try clear q5
    try clear q527
    try clear q528
    try clear q529
    try clear q530
    try clear q531
    try clear q533
    obtain ⟨x6_2, x533006_2, u533006, rfl, HA, HK2, HO_533005, HO_533006, BK526, BK532, HB⟩ := hrel
    cases gk with
    | zero => exact absurd HA.out (by simp [selvedgeref18_Decode.l1])
    | succ k2 =>
     have H := HA.out
     clear HA
     simp only [selvedgeref18_Decode.l1] at H
     by_cases c32 : x6_2 < 16
     rotate_left
     ·rw [if_neg c32] at H
      have c32b0 : decide (x6_2 < 16) = false := decide_eq_false c32
      clear c32
      replace H := Option.bind_eq_some_iff.mp H
      obtain ⟨⟨t541, t544⟩, A460, H⟩ := H
      try dsimp -implicitDefEqProofs -simprocs only at H
      have A46 := Aside0.mk A460
      clear A460
      by_cases c47 : t544 = 0
      rotate_left
      ·rw [if_neg c47] at H
       have c47b0 : (t544 == 0) = false := beq_eq_false_iff_ne.mpr c47
       have c47b1 : (t544 != 0) = true := bne_iff_ne.mpr c47
       simp only [Option.some.injEq, Prod.mk.injEq] at H
       obtain ⟨rfl, rfl, rfl, rfl, rfl, rfl, rfl, rfl⟩ := H
       have hnb66 := NB532_526.out
       have hnc66 := NB526_532.out
       obtain ⟨hcz67_0, hcz67_1, hcz67_2, hcz67_3, hcz67_4, hcz67_5, hcz67_6, hfz67_0, hfz67_1, hfz67_2, hfz67_3, hfz67_4, hfz67_5, hfz67_6⟩ := cf7 BK532
       obtain ⟨Ao68, co68, eo68⟩ := Kd.R_slice HO_533005.out
       subst eo68
       obtain ⟨Ao69, co69, eo69⟩ := Kd.R_slice HO_533006.out
       subst eo69
       go_wp2_with (first | ((with_reducible refine gate_callee (f := 31) rfl ?_); refine goesL_ (some 78) rfl rfl Try.func31 (by kernel_rfl) rfl #[.agg #[.int .i64 (wrap64 (rd l0 1)), .int .i64 (wrap64 (rd l0 2)), .int .i64 (wrap64 (rd l0 3)), .int .i64 (wrap64 (rd l0 4)), .int .i64 (wrap64 (rd l0 5)), .slice Ao68 x533005_1.length co68, .slice Ao69 x533006_2.length co69]] rfl (by (try simp only [List.map_toArray, List.map_cons, List.map_nil]); first | done | rfl | (simp only [List.length_drop, List.length_take]; rfl)) ?_; (with_reducible refine (selvedgeref18_Encode.calls k2 (wrap64 (rd l0 1)) (wrap64 (rd l0 2)) (wrap64 (rd l0 3)) (wrap64 (rd l0 4)) (wrap64 (rd l0 5)) _ _ x533005_1 _ _ x533006_2 t541 t544 _ ?side1 ?side2 ?side3 ?side4 A46.out).mono ?_); (case side1 => repeat (first | exact (Kd.R_reads' HO_533005.out).2.2 | (with_reducible refine Kd.C_alloc ?_ _) | (with_reducible refine Kd.C_drewN ?_ _) | (with_reducible refine Kd.C_drew ?_))); (case side2 => exact (Kd.R_reads' HO_533005.out).2.1); (case side3 => repeat (first | exact (Kd.R_reads' HO_533006.out).2.2 | (with_reducible refine Kd.C_alloc ?_ _) | (with_reducible refine Kd.C_drewN ?_ _) | (with_reducible refine Kd.C_drew ?_))); (case side4 => exact (Kd.R_reads' HO_533006.out).2.1); rintro e w70 ⟨v542, rfl, ho0, hb⟩; refine ⟨_, rfl, ?_⟩; have hone_v542 := Kd.R_one ho0; replace HO_533005 := Aside0.mk (Kd.R_below (rk HO_533005) hb); replace HO_533006 := Aside0.mk (Kd.R_below (rk HO_533006) hb); have HO543 := Aside0.mk (Kd.R_lower ho0 (below_size (bs HB (by simp [ag, GE526.out, GE532.out])))); replace BK526 := Aside0.mk (bb BK526 hb); replace BK532 := Aside0.mk (bb BK532 hb); replace HB := Aside0.mk (below_step (bs HB (by simp [ag, GE526.out, GE532.out])) hb); clear ho0 hb; obtain ⟨hcz71_0, hcz71_1, hcz71_2, hcz71_3, hcz71_4, hcz71_5, hcz71_6, hfz71_0, hfz71_1, hfz71_2, hfz71_3, hfz71_4, hfz71_5, hfz71_6⟩ := cf7 BK526))
       refine bodyPost_ret (results_ct rfl _ _ gb526 42 #[.int .i64 0, .int .i64 0, .int .i64 0, .int .i64 0, .int .i64 0, .slice none 0 0, .slice none 0 0] (0, 0) _ rfl (by (with_reducible repeat (first | refine blk_drewN ?_ _ | refine blk_drew ?_ | refine blk_alloc ?_ _)); refine blk_put (cs := #[.int .i64 0, .int .i64 0, .int .i64 0, .int .i64 0, .int .i64 0, .slice none 0 0, .slice none 0 0]) ?_ 6 _ rfl; (with_reducible repeat (first | refine blk_drewN ?_ _ | refine blk_drew ?_ | refine blk_alloc ?_ _)); refine blk_put (cs := #[.int .i64 0, .int .i64 0, .int .i64 0, .int .i64 0, .int .i64 0, .slice none 0 0, .slice none 0 0]) ?_ 5 _ rfl; (with_reducible repeat (first | refine blk_drewN ?_ _ | refine blk_drew ?_ | refine blk_alloc ?_ _)); refine blk_put (cs := #[.int .i64 0, .int .i64 0, .int .i64 0, .int .i64 0, .int .i64 0, .slice none 0 0, .slice none 0 0]) ?_ 4 _ rfl; (with_reducible repeat (first | refine blk_drewN ?_ _ | refine blk_drew ?_ | refine blk_alloc ?_ _)); refine blk_put (cs := #[.int .i64 0, .int .i64 0, .int .i64 0, .int .i64 0, .int .i64 0, .slice none 0 0, .slice none 0 0]) ?_ 3 _ rfl; (with_reducible repeat (first | refine blk_drewN ?_ _ | refine blk_drew ?_ | refine blk_alloc ?_ _)); refine blk_put (cs := #[.int .i64 0, .int .i64 0, .int .i64 0, .int .i64 0, .int .i64 0, .slice none 0 0, .slice none 0 0]) ?_ 2 _ rfl; (with_reducible repeat (first | refine blk_drewN ?_ _ | refine blk_drew ?_ | refine blk_alloc ?_ _)); refine blk_put (cs := #[.int .i64 0, .int .i64 0, .int .i64 0, .int .i64 0, .int .i64 0, .slice none 0 0, .slice none 0 0]) ?_ 1 _ rfl; (with_reducible repeat (first | refine blk_drewN ?_ _ | refine blk_drew ?_ | refine blk_alloc ?_ _)); refine blk_put (cs := #[.int .i64 0, .int .i64 0, .int .i64 0, .int .i64 0, .int .i64 0, .slice none 0 0, .slice none 0 0]) ?_ 0 _ rfl; (with_reducible repeat (first | refine blk_drewN ?_ _ | refine blk_drew ?_ | refine blk_alloc ?_ _)); exact BK526.out) Try.underlying42 rfl (by kernel_rfl)) rfl ?_
       exact ⟨_, _, by first | rfl | (simp [errW_none, errW_some] <;> rfl) | (simp [*, errW_none, errW_some] <;> rfl), by first | exact Kd.R_nil _ _ _ _ _ | exact Kd.N_nil _ _ _ _ _ | exact Kd.V_nil _ _ _ _ _ | exact Kd.Q_nil _ _ _ _ _ | exact Kd.S_nil _ _ _ _ _, by first | exact Kd.R_nil _ _ _ _ _ | exact Kd.N_nil _ _ _ _ _ | exact Kd.V_nil _ _ _ _ _ | exact Kd.Q_nil _ _ _ _ _ | exact Kd.S_nil _ _ _ _ _, bs HB (by simp [ag, GE526.out, GE532.out])⟩
      rw [if_pos c47] at H
      have c47b0 : (t544 == 0) = true := beq_iff_eq.mpr c47
      have c47b1 : (t544 != 0) = false := bne_eq_false_iff_eq.mpr c47
      clear c47
      by_cases c48 : (strOfNums t541).toList = (strOfNums l0).toList
      rotate_left
      ·rw [if_neg c48] at H
       have c48b0 : ((strOfNums t541).toList == (strOfNums l0).toList) = false := beq_eq_false_iff_ne.mpr c48
       have c48b1 : ((strOfNums t541).toList != (strOfNums l0).toList) = true := bne_iff_ne.mpr c48
       simp only [Option.some.injEq, Prod.mk.injEq] at H
       obtain ⟨rfl, rfl, rfl, rfl, rfl, rfl, rfl, rfl⟩ := H
       have hnb58 := NB532_526.out
       have hnc58 := NB526_532.out
       obtain ⟨hcz59_0, hcz59_1, hcz59_2, hcz59_3, hcz59_4, hcz59_5, hcz59_6, hfz59_0, hfz59_1, hfz59_2, hfz59_3, hfz59_4, hfz59_5, hfz59_6⟩ := cf7 BK532
       obtain ⟨Ao60, co60, eo60⟩ := Kd.R_slice HO_533005.out
       subst eo60
       obtain ⟨Ao61, co61, eo61⟩ := Kd.R_slice HO_533006.out
       subst eo61
       go_wp2_with (first | ((with_reducible refine gate_callee (f := 31) rfl ?_); refine goesL_ (some 78) rfl rfl Try.func31 (by kernel_rfl) rfl #[.agg #[.int .i64 (wrap64 (rd l0 1)), .int .i64 (wrap64 (rd l0 2)), .int .i64 (wrap64 (rd l0 3)), .int .i64 (wrap64 (rd l0 4)), .int .i64 (wrap64 (rd l0 5)), .slice Ao60 x533005_1.length co60, .slice Ao61 x533006_2.length co61]] rfl (by (try simp only [List.map_toArray, List.map_cons, List.map_nil]); first | done | rfl | (simp only [List.length_drop, List.length_take]; rfl)) ?_; (with_reducible refine (selvedgeref18_Encode.calls k2 (wrap64 (rd l0 1)) (wrap64 (rd l0 2)) (wrap64 (rd l0 3)) (wrap64 (rd l0 4)) (wrap64 (rd l0 5)) _ _ x533005_1 _ _ x533006_2 t541 t544 _ ?side1 ?side2 ?side3 ?side4 A46.out).mono ?_); (case side1 => repeat (first | exact (Kd.R_reads' HO_533005.out).2.2 | (with_reducible refine Kd.C_alloc ?_ _) | (with_reducible refine Kd.C_drewN ?_ _) | (with_reducible refine Kd.C_drew ?_))); (case side2 => exact (Kd.R_reads' HO_533005.out).2.1); (case side3 => repeat (first | exact (Kd.R_reads' HO_533006.out).2.2 | (with_reducible refine Kd.C_alloc ?_ _) | (with_reducible refine Kd.C_drewN ?_ _) | (with_reducible refine Kd.C_drew ?_))); (case side4 => exact (Kd.R_reads' HO_533006.out).2.1); rintro e w62 ⟨v542, rfl, ho0, hb⟩; refine ⟨_, rfl, ?_⟩; have hone_v542 := Kd.R_one ho0; replace HO_533005 := Aside0.mk (Kd.R_below (rk HO_533005) hb); replace HO_533006 := Aside0.mk (Kd.R_below (rk HO_533006) hb); have HO543 := Aside0.mk (Kd.R_lower ho0 (below_size (bs HB (by simp [ag, GE526.out, GE532.out])))); replace BK526 := Aside0.mk (bb BK526 hb); replace BK532 := Aside0.mk (bb BK532 hb); replace HB := Aside0.mk (below_step (bs HB (by simp [ag, GE526.out, GE532.out])) hb); clear ho0 hb; have hcv63 := own_string (P := Try.prog) Try.underlying35 Try.underlying5 Try.underlying9 (Kd.own_of_R HO543.out); have hcw63 := fun m_ : Nat => own_string (P := Try.prog) Try.underlying35 Try.underlying5 Try.underlying9 (Kd.own_of_R (Kd.R_drewN HO543.out m_)); have hcv64 := Kd.C_string (P := Try.prog) (A := (some ad527)) (c := c0) Try.underlying35 Try.underlying5 Try.underlying9 (Kd.C_below HR0.out HB.out); (try (have hcx64 := hcv64; simp only [List.length_take, List.length_drop, Int.reduceToNat] at hcx64)); obtain ⟨hcz65_0, hcz65_1, hcz65_2, hcz65_3, hcz65_4, hcz65_5, hcz65_6, hfz65_0, hfz65_1, hfz65_2, hfz65_3, hfz65_4, hfz65_5, hfz65_6⟩ := cf7 BK526))
       refine bodyPost_ret (results_ct rfl _ _ gb526 42 #[.int .i64 0, .int .i64 0, .int .i64 0, .int .i64 0, .int .i64 0, .slice none 0 0, .slice none 0 0] (0, 0) _ rfl (by (with_reducible repeat (first | refine blk_drewN ?_ _ | refine blk_drew ?_ | refine blk_alloc ?_ _)); refine blk_put (cs := #[.int .i64 0, .int .i64 0, .int .i64 0, .int .i64 0, .int .i64 0, .slice none 0 0, .slice none 0 0]) ?_ 6 _ rfl; (with_reducible repeat (first | refine blk_drewN ?_ _ | refine blk_drew ?_ | refine blk_alloc ?_ _)); refine blk_put (cs := #[.int .i64 0, .int .i64 0, .int .i64 0, .int .i64 0, .int .i64 0, .slice none 0 0, .slice none 0 0]) ?_ 5 _ rfl; (with_reducible repeat (first | refine blk_drewN ?_ _ | refine blk_drew ?_ | refine blk_alloc ?_ _)); refine blk_put (cs := #[.int .i64 0, .int .i64 0, .int .i64 0, .int .i64 0, .int .i64 0, .slice none 0 0, .slice none 0 0]) ?_ 4 _ rfl; (with_reducible repeat (first | refine blk_drewN ?_ _ | refine blk_drew ?_ | refine blk_alloc ?_ _)); refine blk_put (cs := #[.int .i64 0, .int .i64 0, .int .i64 0, .int .i64 0, .int .i64 0, .slice none 0 0, .slice none 0 0]) ?_ 3 _ rfl; (with_reducible repeat (first | refine blk_drewN ?_ _ | refine blk_drew ?_ | refine blk_alloc ?_ _)); refine blk_put (cs := #[.int .i64 0, .int .i64 0, .int .i64 0, .int .i64 0, .int .i64 0, .slice none 0 0, .slice none 0 0]) ?_ 2 _ rfl; (with_reducible repeat (first | refine blk_drewN ?_ _ | refine blk_drew ?_ | refine blk_alloc ?_ _)); refine blk_put (cs := #[.int .i64 0, .int .i64 0, .int .i64 0, .int .i64 0, .int .i64 0, .slice none 0 0, .slice none 0 0]) ?_ 1 _ rfl; (with_reducible repeat (first | refine blk_drewN ?_ _ | refine blk_drew ?_ | refine blk_alloc ?_ _)); refine blk_put (cs := #[.int .i64 0, .int .i64 0, .int .i64 0, .int .i64 0, .int .i64 0, .slice none 0 0, .slice none 0 0]) ?_ 0 _ rfl; (with_reducible repeat (first | refine blk_drewN ?_ _ | refine blk_drew ?_ | refine blk_alloc ?_ _)); exact BK526.out) Try.underlying42 rfl (by kernel_rfl)) rfl ?_
       exact ⟨_, _, by first | rfl | (simp [errW_none, errW_some] <;> rfl) | (simp [*, errW_none, errW_some] <;> rfl), by first | exact Kd.R_nil _ _ _ _ _ | exact Kd.N_nil _ _ _ _ _ | exact Kd.V_nil _ _ _ _ _ | exact Kd.Q_nil _ _ _ _ _ | exact Kd.S_nil _ _ _ _ _, by first | exact Kd.R_nil _ _ _ _ _ | exact Kd.N_nil _ _ _ _ _ | exact Kd.V_nil _ _ _ _ _ | exact Kd.Q_nil _ _ _ _ _ | exact Kd.S_nil _ _ _ _ _, bs HB (by simp [ag, GE526.out, GE532.out])⟩
      rw [if_pos c48] at H
      have c48b0 : ((strOfNums t541).toList == (strOfNums l0).toList) = true := beq_iff_eq.mpr c48
      have c48b1 : ((strOfNums t541).toList != (strOfNums l0).toList) = false := bne_eq_false_iff_eq.mpr c48
      clear c48
      simp only [Option.some.injEq, Prod.mk.injEq] at H
      obtain ⟨rfl, rfl, rfl, rfl, rfl, rfl, rfl, rfl⟩ := H
      have hnb49 := NB532_526.out
      have hnc49 := NB526_532.out
      obtain ⟨hcz50_0, hcz50_1, hcz50_2, hcz50_3, hcz50_4, hcz50_5, hcz50_6, hfz50_0, hfz50_1, hfz50_2, hfz50_3, hfz50_4, hfz50_5, hfz50_6⟩ := cf7 BK532
      obtain ⟨Ao51, co51, eo51⟩ := Kd.R_slice HO_533005.out
      subst eo51
      obtain ⟨Ao52, co52, eo52⟩ := Kd.R_slice HO_533006.out
      subst eo52
      go_wp2_with (first | ((with_reducible refine gate_callee (f := 31) rfl ?_); refine goesL_ (some 78) rfl rfl Try.func31 (by kernel_rfl) rfl #[.agg #[.int .i64 (wrap64 (rd l0 1)), .int .i64 (wrap64 (rd l0 2)), .int .i64 (wrap64 (rd l0 3)), .int .i64 (wrap64 (rd l0 4)), .int .i64 (wrap64 (rd l0 5)), .slice Ao51 x533005_1.length co51, .slice Ao52 x533006_2.length co52]] rfl (by (try simp only [List.map_toArray, List.map_cons, List.map_nil]); first | done | rfl | (simp only [List.length_drop, List.length_take]; rfl)) ?_; (with_reducible refine (selvedgeref18_Encode.calls k2 (wrap64 (rd l0 1)) (wrap64 (rd l0 2)) (wrap64 (rd l0 3)) (wrap64 (rd l0 4)) (wrap64 (rd l0 5)) _ _ x533005_1 _ _ x533006_2 t541 t544 _ ?side1 ?side2 ?side3 ?side4 A46.out).mono ?_); (case side1 => repeat (first | exact (Kd.R_reads' HO_533005.out).2.2 | (with_reducible refine Kd.C_alloc ?_ _) | (with_reducible refine Kd.C_drewN ?_ _) | (with_reducible refine Kd.C_drew ?_))); (case side2 => exact (Kd.R_reads' HO_533005.out).2.1); (case side3 => repeat (first | exact (Kd.R_reads' HO_533006.out).2.2 | (with_reducible refine Kd.C_alloc ?_ _) | (with_reducible refine Kd.C_drewN ?_ _) | (with_reducible refine Kd.C_drew ?_))); (case side4 => exact (Kd.R_reads' HO_533006.out).2.1); rintro e w53 ⟨v542, rfl, ho0, hb⟩; refine ⟨_, rfl, ?_⟩; have hone_v542 := Kd.R_one ho0; replace HO_533005 := Aside0.mk (Kd.R_below (rk HO_533005) hb); replace HO_533006 := Aside0.mk (Kd.R_below (rk HO_533006) hb); have HO543 := Aside0.mk (Kd.R_lower ho0 (below_size (bs HB (by simp [ag, GE526.out, GE532.out])))); replace BK526 := Aside0.mk (bb BK526 hb); replace BK532 := Aside0.mk (bb BK532 hb); replace HB := Aside0.mk (below_step (bs HB (by simp [ag, GE526.out, GE532.out])) hb); clear ho0 hb; have hcv54 := own_string (P := Try.prog) Try.underlying35 Try.underlying5 Try.underlying9 (Kd.own_of_R HO543.out); have hcw54 := fun m_ : Nat => own_string (P := Try.prog) Try.underlying35 Try.underlying5 Try.underlying9 (Kd.own_of_R (Kd.R_drewN HO543.out m_)); have hcv55 := Kd.C_string (P := Try.prog) (A := (some ad527)) (c := c0) Try.underlying35 Try.underlying5 Try.underlying9 (Kd.C_below HR0.out HB.out); (try (have hcx55 := hcv55; simp only [List.length_take, List.length_drop, Int.reduceToNat] at hcx55)); obtain ⟨hcz56_0, hcz56_1, hcz56_2, hcz56_3, hcz56_4, hcz56_5, hcz56_6, hfz56_0, hfz56_1, hfz56_2, hfz56_3, hfz56_4, hfz56_5, hfz56_6⟩ := cf7 BK532; obtain ⟨hcz57_0, hcz57_1, hcz57_2, hcz57_3, hcz57_4, hcz57_5, hcz57_6, hfz57_0, hfz57_1, hfz57_2, hfz57_3, hfz57_4, hfz57_5, hfz57_6⟩ := cf7 BK526))
      refine bodyPost_ret (results_ct rfl _ _ gb526 42 #[.int .i64 (wrap64 (rd l0 1)), .int .i64 (wrap64 (rd l0 2)), .int .i64 (wrap64 (rd l0 3)), .int .i64 (wrap64 (rd l0 4)), .int .i64 (wrap64 (rd l0 5)), .slice Ao51 x533005_1.length co51, .slice Ao52 x533006_2.length co52] (0, 0) _ rfl (by (with_reducible repeat (first | refine blk_drewN ?_ _ | refine blk_drew ?_ | refine blk_alloc ?_ _)); refine blk_put (cs := #[.int .i64 (wrap64 (rd l0 1)), .int .i64 (wrap64 (rd l0 2)), .int .i64 (wrap64 (rd l0 3)), .int .i64 (wrap64 (rd l0 4)), .int .i64 (wrap64 (rd l0 5)), .slice Ao51 x533005_1.length co51, .slice none 0 0]) ?_ 6 _ rfl; (with_reducible repeat (first | refine blk_drewN ?_ _ | refine blk_drew ?_ | refine blk_alloc ?_ _)); refine blk_put (cs := #[.int .i64 (wrap64 (rd l0 1)), .int .i64 (wrap64 (rd l0 2)), .int .i64 (wrap64 (rd l0 3)), .int .i64 (wrap64 (rd l0 4)), .int .i64 (wrap64 (rd l0 5)), .slice none 0 0, .slice none 0 0]) ?_ 5 _ rfl; (with_reducible repeat (first | refine blk_drewN ?_ _ | refine blk_drew ?_ | refine blk_alloc ?_ _)); refine blk_put (cs := #[.int .i64 (wrap64 (rd l0 1)), .int .i64 (wrap64 (rd l0 2)), .int .i64 (wrap64 (rd l0 3)), .int .i64 (wrap64 (rd l0 4)), .int .i64 0, .slice none 0 0, .slice none 0 0]) ?_ 4 _ rfl; (with_reducible repeat (first | refine blk_drewN ?_ _ | refine blk_drew ?_ | refine blk_alloc ?_ _)); refine blk_put (cs := #[.int .i64 (wrap64 (rd l0 1)), .int .i64 (wrap64 (rd l0 2)), .int .i64 (wrap64 (rd l0 3)), .int .i64 0, .int .i64 0, .slice none 0 0, .slice none 0 0]) ?_ 3 _ rfl; (with_reducible repeat (first | refine blk_drewN ?_ _ | refine blk_drew ?_ | refine blk_alloc ?_ _)); refine blk_put (cs := #[.int .i64 (wrap64 (rd l0 1)), .int .i64 (wrap64 (rd l0 2)), .int .i64 0, .int .i64 0, .int .i64 0, .slice none 0 0, .slice none 0 0]) ?_ 2 _ rfl; (with_reducible repeat (first | refine blk_drewN ?_ _ | refine blk_drew ?_ | refine blk_alloc ?_ _)); refine blk_put (cs := #[.int .i64 (wrap64 (rd l0 1)), .int .i64 0, .int .i64 0, .int .i64 0, .int .i64 0, .slice none 0 0, .slice none 0 0]) ?_ 1 _ rfl; (with_reducible repeat (first | refine blk_drewN ?_ _ | refine blk_drew ?_ | refine blk_alloc ?_ _)); refine blk_put (cs := #[.int .i64 0, .int .i64 0, .int .i64 0, .int .i64 0, .int .i64 0, .slice none 0 0, .slice none 0 0]) ?_ 0 _ rfl; (with_reducible repeat (first | refine blk_drewN ?_ _ | refine blk_drew ?_ | refine blk_alloc ?_ _)); exact BK526.out) Try.underlying42 rfl (by kernel_rfl)) rfl ?_
      exact ⟨_, _, by first | rfl | (simp [errW_none, errW_some] <;> rfl) | (simp [*, errW_none, errW_some] <;> rfl), by (with_reducible repeat (first | apply Kd.R_alloc | apply Kd.R_drewN | apply Kd.R_drew)); exact Kd.R_mono (Kd.R_far (p := ⟨gb526, 6, none⟩) (Kd.R_far (p := ⟨gb526, 5, none⟩) (Kd.R_far (p := ⟨gb526, 4, none⟩) (Kd.R_far (p := ⟨gb526, 3, none⟩) (Kd.R_far (p := ⟨gb526, 2, none⟩) (Kd.R_far (p := ⟨gb526, 1, none⟩) (Kd.R_far (p := ⟨gb526, 0, none⟩) (Kd.R_types HO_533005.out BK526.out (by decide)) (fun _ hk => hk.2) (.int .i64 (wrap64 (rd l0 1)))) (fun _ hk => hk.2) (.int .i64 (wrap64 (rd l0 2)))) (fun _ hk => hk.2) (.int .i64 (wrap64 (rd l0 3)))) (fun _ hk => hk.2) (.int .i64 (wrap64 (rd l0 4)))) (fun _ hk => hk.2) (.int .i64 (wrap64 (rd l0 5)))) (fun _ hk => hk.2) (.slice Ao51 x533005_1.length co51)) (fun _ hk => hk.2) (.slice Ao52 x533006_2.length co52)) (fun _ hk => hk.1), by (with_reducible repeat (first | apply Kd.R_alloc | apply Kd.R_drewN | apply Kd.R_drew)); exact Kd.R_mono (Kd.R_far (p := ⟨gb526, 6, none⟩) (Kd.R_far (p := ⟨gb526, 5, none⟩) (Kd.R_far (p := ⟨gb526, 4, none⟩) (Kd.R_far (p := ⟨gb526, 3, none⟩) (Kd.R_far (p := ⟨gb526, 2, none⟩) (Kd.R_far (p := ⟨gb526, 1, none⟩) (Kd.R_far (p := ⟨gb526, 0, none⟩) (Kd.R_types HO_533006.out BK526.out (by decide)) (fun _ hk => hk.2) (.int .i64 (wrap64 (rd l0 1)))) (fun _ hk => hk.2) (.int .i64 (wrap64 (rd l0 2)))) (fun _ hk => hk.2) (.int .i64 (wrap64 (rd l0 3)))) (fun _ hk => hk.2) (.int .i64 (wrap64 (rd l0 4)))) (fun _ hk => hk.2) (.int .i64 (wrap64 (rd l0 5)))) (fun _ hk => hk.2) (.slice Ao51 x533005_1.length co51)) (fun _ hk => hk.2) (.slice Ao52 x533006_2.length co52)) (fun _ hk => hk.1), bs HB (by simp [ag, GE526.out, GE532.out])⟩
     rw [if_pos c32] at H
     have c32b0 : decide (x6_2 < 16) = true := decide_eq_true c32
     clear c32
     obtain ⟨ji33, hji33⟩ : ∃ j_ : Int, (wrap64 (14 + (wrap64 (Int.tdiv x6_2 8)))) = j_ := ⟨_, rfl⟩
     replace H : (if 0 ≤ (ji33) then (if (ji33) < (l0.length : Int) then (if 0 ≤ (Int.tmod x6_2 8) then (if (Go.bits .and .u8 (shr .u8 (rd l0 (ji33)) (Int.tmod x6_2 8)) 1) = 1 then (if x533006_2.length < 17592186044416 then (selvedgeref18_Decode.l1 k2 l0 (wrap64 (x6_2 + 1)) (wrap64 (rd l0 1)) (wrap64 (rd l0 2)) (wrap64 (rd l0 3)) (wrap64 (rd l0 4)) (wrap64 (rd l0 5)) x533005_1 (x533006_2 ++ [x6_2])) else (none)) else (selvedgeref18_Decode.l1 k2 l0 (wrap64 (x6_2 + 1)) (wrap64 (rd l0 1)) (wrap64 (rd l0 2)) (wrap64 (rd l0 3)) (wrap64 (rd l0 4)) (wrap64 (rd l0 5)) x533005_1 x533006_2)) else (none)) else (none)) else (none)) = some (r1, r2, r3, r4, r5, r6, r7, r8) := by first | (rw [hji33] at H; exact H) | (simp only [hji33] at H ⊢; exact H)
     have hji33w : (IntKind.i64.wrap (14 + (wrap64 (Int.tdiv x6_2 8)))) = ji33 := (i64_w _).trans hji33
     by_cases c34 : 0 ≤ (ji33)
     rotate_left
     ·rw [if_neg c34] at H
      exact absurd H (by simp)
     rw [if_pos c34] at H
     have c34b0 : decide (0 ≤ (ji33)) = true := decide_eq_true c34
     clear c34
     by_cases c35 : (ji33) < (l0.length : Int)
     rotate_left
     ·rw [if_neg c35] at H
      exact absurd H (by simp)
     rw [if_pos c35] at H
     have c35b0 : decide ((ji33) < (l0.length : Int)) = true := decide_eq_true c35
     clear c35
     obtain ⟨ji36, hji36⟩ : ∃ j_ : Int, (Int.tmod x6_2 8) = j_ := ⟨_, rfl⟩
     replace H : (if 0 ≤ (ji36) then (if (Go.bits .and .u8 (shr .u8 (rd l0 (ji33)) (ji36)) 1) = 1 then (if x533006_2.length < 17592186044416 then (selvedgeref18_Decode.l1 k2 l0 (wrap64 (x6_2 + 1)) (wrap64 (rd l0 1)) (wrap64 (rd l0 2)) (wrap64 (rd l0 3)) (wrap64 (rd l0 4)) (wrap64 (rd l0 5)) x533005_1 (x533006_2 ++ [x6_2])) else (none)) else (selvedgeref18_Decode.l1 k2 l0 (wrap64 (x6_2 + 1)) (wrap64 (rd l0 1)) (wrap64 (rd l0 2)) (wrap64 (rd l0 3)) (wrap64 (rd l0 4)) (wrap64 (rd l0 5)) x533005_1 x533006_2)) else (none)) = some (r1, r2, r3, r4, r5, r6, r7, r8) := by first | (rw [hji36] at H; exact H) | (simp only [hji36] at H ⊢; exact H)
     by_cases c37 : 0 ≤ (ji36)
     rotate_left
     ·rw [if_neg c37] at H
      exact absurd H (by simp)
     rw [if_pos c37] at H
     have c37b0 := eq_true c37
     have c37b1 : decide (0 ≤ (ji36)) = true := decide_eq_true c37
     clear c37
     obtain ⟨ji38, hji38⟩ : ∃ j_ : Int, (shr .u8 (rd l0 (ji33)) (ji36)) = j_ := ⟨_, rfl⟩
     replace H : (if (Go.bits .and .u8 (ji38) 1) = 1 then (if x533006_2.length < 17592186044416 then (selvedgeref18_Decode.l1 k2 l0 (wrap64 (x6_2 + 1)) (wrap64 (rd l0 1)) (wrap64 (rd l0 2)) (wrap64 (rd l0 3)) (wrap64 (rd l0 4)) (wrap64 (rd l0 5)) x533005_1 (x533006_2 ++ [x6_2])) else (none)) else (selvedgeref18_Decode.l1 k2 l0 (wrap64 (x6_2 + 1)) (wrap64 (rd l0 1)) (wrap64 (rd l0 2)) (wrap64 (rd l0 3)) (wrap64 (rd l0 4)) (wrap64 (rd l0 5)) x533005_1 x533006_2)) = some (r1, r2, r3, r4, r5, r6, r7, r8) := by first | (rw [hji38] at H; exact H) | (simp only [hji38] at H ⊢; exact H)
     have hji38_ : ((rd l0 (ji33)) / 2 ^ min (ji36).toNat 8) = ji38 := hji38
     have hji38z : (ji36) ≤ 8 → ((rd l0 (ji33)) / 2 ^ (ji36).toNat) = ji38 := shr_small hji38
     by_cases c39 : (Go.bits .and .u8 (ji38) 1) = 1
     rotate_left
     ·rw [if_neg c39] at H
      have c39b0 : ((Go.bits .and .u8 (ji38) 1) == 1) = false := beq_eq_false_iff_ne.mpr c39
      have c39b1 : ((Go.bits .and .u8 (ji38) 1) != 1) = true := bne_iff_ne.mpr c39
      have H' := Aside0.mk H
      clear H
      have p537 : 0 ≤ ((ji33) : Int) := of_decide_eq_true (by first | with_reducible assumption | assumption)
      have q537 : (ji33) < (l0.length : Int) := of_decide_eq_true (by first | with_reducible assumption | assumption)
      obtain ⟨ad537, e537, hx537_0⟩ := Kd.at_int HR0.out (ji33) p537 q537
      obtain rfl : ad527 = ad537 := (by injection e537)
      replace hx537_0 := pw_cell_below HB.out hx537_0
      replace p537 := eq_true p537
      replace q537 := eq_true q537
      go_wp2
      go_roundg k2
      case measure => have := HK1.out; have := HK2.out; omega
      case rel => exact ⟨(wrap64 (x6_2 + 1)), (x533006_2), (u533006), (by first | rfl | (simp; done) | (simp [*]; done)), H', ⟨by have := HK1.out; have := HK2.out; omega⟩, ⟨rk HO_533005⟩, ⟨rk HO_533006⟩, ⟨bk BK526⟩, ⟨bk BK532⟩, ⟨bs HB (by simp [ag, GE526.out, GE532.out])⟩⟩
     rw [if_pos c39] at H
     have c39b0 : ((Go.bits .and .u8 (ji38) 1) == 1) = true := beq_iff_eq.mpr c39
     have c39b1 : ((Go.bits .and .u8 (ji38) 1) != 1) = false := bne_eq_false_iff_eq.mpr c39
     clear c39
     by_cases c40 : x533006_2.length < 17592186044416
     rotate_left
     ·rw [if_neg c40] at H
      exact absurd H (by simp)
     rw [if_pos c40] at H
     have LMc40 := Aside0.mk c40
     clear c40
     obtain ⟨y538, hy538⟩ : ∃ y_ : List Int, y_ = (x533006_2 ++ [x6_2]) := ⟨_, rfl⟩
     replace H : (selvedgeref18_Decode.l1 k2 l0 (wrap64 (x6_2 + 1)) (wrap64 (rd l0 1)) (wrap64 (rd l0 2)) (wrap64 (rd l0 3)) (wrap64 (rd l0 4)) (wrap64 (rd l0 5)) x533005_1 y538) = some (r1, r2, r3, r4, r5, r6, r7, r8) := by first | (rw [hy538]; with_reducible exact H) | (have H2_ := (Option.bind_some _ _).symm.trans H; rw [hy538]; with_reducible exact H2_) | (have H2_ := (Option.bind_some _ _).symm.trans H; with_reducible exact H2_) | with_reducible exact H | (rw [hy538]; exact H) | exact H
     have Ny538 := Aside0.mk hy538
     clear hy538
     have H' := Aside0.mk H
     clear H
     have p537 : 0 ≤ ((ji33) : Int) := of_decide_eq_true (by first | with_reducible assumption | assumption)
     have q537 : (ji33) < (l0.length : Int) := of_decide_eq_true (by first | with_reducible assumption | assumption)
     obtain ⟨ad537, e537, hx537_0⟩ := Kd.at_int HR0.out (ji33) p537 q537
     obtain rfl : ad527 = ad537 := (by injection e537)
     replace hx537_0 := pw_cell_below HB.out hx537_0
     replace p537 := eq_true p537
     replace q537 := eq_true q537
     have hnb41 := NB532_526.out
     have hnc41 := NB526_532.out
     obtain ⟨hcz42_0, hcz42_1, hcz42_2, hcz42_3, hcz42_4, hcz42_5, hcz42_6, hfz42_0, hfz42_1, hfz42_2, hfz42_3, hfz42_4, hfz42_5, hfz42_6⟩ := cf7 BK532
     go_wp2_with (first | ((with_reducible refine gate_builtin (b := .append) (xs := #[.tmp 71, .tmp 73]) rfl ?_); at_builtin; refine Kd.R_append (Kd.int .i64) (w0 := w) w.heap.size rfl (.tmp 71) (.tmp 73) 40 3 (.int .i64 0) 8 rfl Try.underlying40 info3 rfl (by decide) (by omega) u533006 x533006_2 x6_2 [.int .i64 x6_2] (fun k_ => some k_ ≠ (u533005 : Value).ownBlock) (fun _ => False) rfl rfl ?aP (fun _ hk => hk.elim) ?aF ?aO ?aB ?aS ?aL ?_; (case aP => exact rfl); (case aB => exact (bs HB (by simp [ag, GE526.out, GE532.out]))); (case aF => exact (fun k_ hk => Kd.fresh' (Kd.R_lt (rk HO_533005)) k_ hk)); (case aO => exact (rk HO_533006)); (case aS => exact (below_size (bs HB (by simp [ag, GE526.out, GE532.out])))); (case aL => have := LMc40.out; omega); intro v539 w43 ho hb hg hat; rw [← Ny538.out] at ho; replace HO_533005 := Aside0.mk (Kd.R_after (ok := (fun _ => True)) (Kd.R_mono (rk HO_533005) (fun _ hk => ⟨trivial, hk⟩)) hg hat); replace BK526 := Aside0.mk (blk_grown (g := gb526) (o := .cells #[.int .i64 0, .int .i64 0, .int .i64 0, .int .i64 0, .int .i64 0, .slice none 0 0, .slice none 0 0] 42 (0, 0)) (bk BK526) hg (Kd.R_ne HO_533006.out BK526.out (by decide))); replace BK532 := Aside0.mk (blk_grown (g := gb532) (o := .cells #[.int .i64 (wrap64 (rd l0 1)), .int .i64 (wrap64 (rd l0 2)), .int .i64 (wrap64 (rd l0 3)), .int .i64 (wrap64 (rd l0 4)), .int .i64 (wrap64 (rd l0 5)), u533005, u533006] 42 (0, 0)) (bk BK532) hg (Kd.R_ne HO_533006.out BK532.out (by decide))); replace HB := Aside0.mk (hb); have HO540 := Aside0.mk (ho); clear HO_533006; clear ho hb hg hat; obtain ⟨Ao44, co44, eo44⟩ := Kd.R_slice HO540.out; subst eo44; obtain ⟨hcz45_0, hcz45_1, hcz45_2, hcz45_3, hcz45_4, hcz45_5, hcz45_6, hfz45_0, hfz45_1, hfz45_2, hfz45_3, hfz45_4, hfz45_5, hfz45_6⟩ := cf7 BK532))
     go_roundg k2
     case measure => have := HK1.out; have := HK2.out; omega
     case rel => exact ⟨(wrap64 (x6_2 + 1)), (y538), (.slice Ao44 y538.length co44), (by first | rfl | (simp; done) | (simp [*]; done)), H', ⟨by have := HK1.out; have := HK2.out; omega⟩, ⟨by (with_reducible repeat (first | apply Kd.R_alloc | apply Kd.R_drewN | apply Kd.R_drew)); exact Kd.R_mono (Kd.R_far (p := ⟨gb532, 6, none⟩) (Kd.R_types HO_533005.out BK532.out (by decide)) (fun _ hk => hk.2) (.slice Ao44 y538.length co44)) (fun _ hk => hk.1.2)⟩, ⟨by (with_reducible repeat (first | apply Kd.R_alloc | apply Kd.R_drewN | apply Kd.R_drew)); exact Kd.R_mono (Kd.R_far (p := ⟨gb532, 6, none⟩) (Kd.R_types HO540.out BK532.out (by decide)) (fun _ hk => hk.2) (.slice Ao44 y538.length co44)) (fun _ hk => hk.1)⟩, ⟨by (with_reducible repeat (first | refine blk_drewN ?_ _ | refine blk_drew ?_ | refine blk_alloc ?_ _)); refine blk_far ?_ NB526_532.out _; (with_reducible repeat (first | refine blk_drewN ?_ _ | refine blk_drew ?_ | refine blk_alloc ?_ _)); exact BK526.out⟩, ⟨by (with_reducible repeat (first | refine blk_drewN ?_ _ | refine blk_drew ?_ | refine blk_alloc ?_ _)); refine blk_put (cs := #[.int .i64 (wrap64 (rd l0 1)), .int .i64 (wrap64 (rd l0 2)), .int .i64 (wrap64 (rd l0 3)), .int .i64 (wrap64 (rd l0 4)), .int .i64 (wrap64 (rd l0 5)), u533005, u533006]) ?_ 6 _ rfl; (with_reducible repeat (first | refine blk_drewN ?_ _ | refine blk_drew ?_ | refine blk_alloc ?_ _)); exact BK532.out⟩, ⟨bs HB (by simp [ag, GE526.out, GE532.out])⟩⟩
end Go.Proofs.Ytehjmmedghcndaa.PG
