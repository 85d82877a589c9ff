import Derived.Test.YtehjmmedghcndaaPGx0
import Derived.Test.YtehjmmedghcndaaG3
import Derived.Test.YtehjmmedghcndaaLT
namespace Go.Proofs.Ytehjmmedghcndaa.PG
open Go.RowKit Go.Proofs.YtehjmmedghcndaaW.PrintWords Go.Proofs.YtehjmmedghcndaaW.PrintLast Go.Proofs.YtehjmmedghcndaaW.PrintMore
attribute [local go_sem] max2_int min2_int max_two min_two max_three min_three max_four min_four run_store_one   -- for this text's walks alone
set_option linter.unusedVariables false
set_option linter.unusedSimpArgs false
/-! ### selvedgeref18_Spread: function 27 -/
def selvedgeref18_Spread.l0 : Nat → List (S42) → Int → Int → Int → Option (Int)
 | 0, _, _, _, _ => none
 | k + 1, x0, x3, x4, x5 => if x5 < (x0.length : Int) then (if 0 ≤ x5 then (if ((rd_T42 x0 x5).f2) > x3 then (if ((rd_T42 x0 x5).f2) < x4 then (selvedgeref18_Spread.l0 k x0 ((rd_T42 x0 x5).f2) ((rd_T42 x0 x5).f2) (wrap64 (x5 + 1))) else (selvedgeref18_Spread.l0 k x0 ((rd_T42 x0 x5).f2) x4 (wrap64 (x5 + 1)))) else (if ((rd_T42 x0 x5).f2) < x4 then (selvedgeref18_Spread.l0 k x0 x3 ((rd_T42 x0 x5).f2) (wrap64 (x5 + 1))) else (selvedgeref18_Spread.l0 k x0 x3 x4 (wrap64 (x5 + 1))))) else (none)) else (some (wrap64 (x3 - x4)))
def selvedgeref18_Spread.f (k : Nat) (l0 : List (S42)) : Option (Int) := (selvedgeref18_Whole.f k l0).bind fun t451 => (if t451 = true then (if 0 < (l0.length : Int) then (selvedgeref18_Spread.l0 k l0 ((rd_T42 l0 0).f2) ((rd_T42 l0 0).f2) 0) else (none)) else (some 0))
set_option maxHeartbeats 8000000 in
set_option maxRecDepth 100000 in
theorem selvedgeref18_Spread.calls (k : Nat) (A0 : Option Addr) (c0 : Nat) (l0 : List (S42)) (r : Int) (w : World) (hr0 : Kd.C k42 w A0 l0.length l0) (hc0 : l0.length ≤ c0) (h : selvedgeref18_Spread.f k l0 = some r) :
  Calls Try.prog 27 #[.slice A0 l0.length c0] w fun e w' => e = .returned (.int .i64 r) ∧ Below w.heap.size w w' := by
 have HR0 := Aside0.mk hr0
 have HC0 := Aside0.mk hc0
 clear hr0 hc0
 have HB := Aside0.mk (Below.refl w.heap.size w)
 have H : ((selvedgeref18_Whole.f k l0).bind fun t451 => (if t451 = true then (if 0 < (l0.length : Int) then (selvedgeref18_Spread.l0 k l0 ((rd_T42 l0 0).f2) ((rd_T42 l0 0).f2) 0) else (none)) else (some 0))) = some r := h
 clear h
 replace H := Option.bind_eq_some_iff.mp H
 obtain ⟨t451, A20, H⟩ := H
 try dsimp -implicitDefEqProofs -simprocs only at H
 have A2 := Aside0.mk A20
 clear A20
 by_cases c3 : t451 = true
 ·subst c3
  have H1 : (if 0 < (l0.length : Int) then (selvedgeref18_Spread.l0 k l0 ((rd_T42 l0 0).f2) ((rd_T42 l0 0).f2) 0) else (none)) = some r := by rw [if_pos rfl] at H; exact H
  clear H
  have H := H1
  clear H1
  by_cases c4 : 0 < (l0.length : Int)
  ·rw [if_pos c4] at H
   have c4b0 : decide (0 < (l0.length : Int)) = true := decide_eq_true c4
   have c4b1 : decide (0 < l0.length) = true := decide_eq_true (by omega)
   clear c4
   have H' := Aside0.mk H
   clear H
   go_enter Try.func27, Try.ntmps27
   go_wp2_with (first | (go_at_call 20; (with_reducible refine (selvedgeref18_Whole.calls k _ _ l0 true _ ?side1 ?side2 A2.out).mono ?_); (case side1 => exact ck HR0.out); (case side2 => exact HC0.out); rintro e w5 ⟨rfl, hb⟩; replace HB := Aside0.mk (below_step (bl HB) hb); (try clear hb); (try clear hb2); (try clear hk); (try clear hi); have p452 : 0 ≤ (0 : Int) := (by omega); have q452 : 0 < (l0.length : Int) := of_decide_eq_true (by assumption); obtain ⟨ad452, A452_5, c452_5, A452_6, c452_6, e452, hx452_0, hx452_1, hx452_2, hx452_3, hx452_4, hx452_5, hx452_6, hl452_5, hi452_5, hl452_6, hi452_6⟩ := at_T42 HR0.out 0 p452 q452; cases e452; have qi452 : (0 < l0.length) = True := eq_true (by omega); (try rw [show ((0 : Int)).toNat = 0 from rfl] at hx452_0); (try rw [show 0 * 7 = 0 from rfl] at hx452_0); (try rw [Addr.add_zero'] at hx452_0); (try rw [show ((0 : Int)).toNat = 0 from rfl] at hx452_1); (try rw [show 0 * 7 = 0 from rfl] at hx452_1); (try rw [Addr.add_zero'] at hx452_1); (try rw [show ((0 : Int)).toNat = 0 from rfl] at hx452_2); (try rw [show 0 * 7 = 0 from rfl] at hx452_2); (try rw [Addr.add_zero'] at hx452_2); (try rw [show ((0 : Int)).toNat = 0 from rfl] at hx452_3); (try rw [show 0 * 7 = 0 from rfl] at hx452_3); (try rw [Addr.add_zero'] at hx452_3); (try rw [show ((0 : Int)).toNat = 0 from rfl] at hx452_4); (try rw [show 0 * 7 = 0 from rfl] at hx452_4); (try rw [Addr.add_zero'] at hx452_4); (try rw [show ((0 : Int)).toNat = 0 from rfl] at hx452_5); (try rw [show 0 * 7 = 0 from rfl] at hx452_5); (try rw [Addr.add_zero'] at hx452_5); (try rw [show ((0 : Int)).toNat = 0 from rfl] at hx452_6); (try rw [show 0 * 7 = 0 from rfl] at hx452_6); (try rw [Addr.add_zero'] at hx452_6); replace hx452_0 := pw_cell_below HB.out hx452_0; replace hx452_1 := pw_cell_below HB.out hx452_1; replace hx452_2 := pw_cell_below HB.out hx452_2; replace hx452_3 := pw_cell_below HB.out hx452_3; replace hx452_4 := pw_cell_below HB.out hx452_4; replace hx452_5 := pw_cell_below HB.out hx452_5; replace hx452_6 := pw_cell_below HB.out hx452_6; have HR452_5 := Aside0.mk hi452_5; have HC452_5 := Aside0.mk hl452_5; clear hi452_5 hl452_5; have HR452_6 := Aside0.mk hi452_6; have HC452_6 := Aside0.mk hl452_6; clear hi452_6 hl452_6; replace p452 := eq_true p452; replace q452 := eq_true q452; have p453 : 0 ≤ (0 : Int) := (by omega); have q453 : 0 < (l0.length : Int) := of_decide_eq_true (by assumption); obtain ⟨ad453, A453_5, c453_5, A453_6, c453_6, e453, hx453_0, hx453_1, hx453_2, hx453_3, hx453_4, hx453_5, hx453_6, hl453_5, hi453_5, hl453_6, hi453_6⟩ := at_T42 HR0.out 0 p453 q453; obtain rfl : ad452 = ad453 := (by injection e453); have qi453 : (0 < l0.length) = True := eq_true (by omega); (try rw [show ((0 : Int)).toNat = 0 from rfl] at hx453_0); (try rw [show 0 * 7 = 0 from rfl] at hx453_0); (try rw [Addr.add_zero'] at hx453_0); (try rw [show ((0 : Int)).toNat = 0 from rfl] at hx453_1); (try rw [show 0 * 7 = 0 from rfl] at hx453_1); (try rw [Addr.add_zero'] at hx453_1); (try rw [show ((0 : Int)).toNat = 0 from rfl] at hx453_2); (try rw [show 0 * 7 = 0 from rfl] at hx453_2); (try rw [Addr.add_zero'] at hx453_2); (try rw [show ((0 : Int)).toNat = 0 from rfl] at hx453_3); (try rw [show 0 * 7 = 0 from rfl] at hx453_3); (try rw [Addr.add_zero'] at hx453_3); (try rw [show ((0 : Int)).toNat = 0 from rfl] at hx453_4); (try rw [show 0 * 7 = 0 from rfl] at hx453_4); (try rw [Addr.add_zero'] at hx453_4); (try rw [show ((0 : Int)).toNat = 0 from rfl] at hx453_5); (try rw [show 0 * 7 = 0 from rfl] at hx453_5); (try rw [Addr.add_zero'] at hx453_5); (try rw [show ((0 : Int)).toNat = 0 from rfl] at hx453_6); (try rw [show 0 * 7 = 0 from rfl] at hx453_6); (try rw [Addr.add_zero'] at hx453_6); replace hx453_0 := pw_cell_below HB.out hx453_0; replace hx453_1 := pw_cell_below HB.out hx453_1; replace hx453_2 := pw_cell_below HB.out hx453_2; replace hx453_3 := pw_cell_below HB.out hx453_3; replace hx453_4 := pw_cell_below HB.out hx453_4; replace hx453_5 := pw_cell_below HB.out hx453_5; replace hx453_6 := pw_cell_below HB.out hx453_6; have HR453_5 := Aside0.mk hi453_5; have HC453_5 := Aside0.mk hl453_5; clear hi453_5 hl453_5; have HR453_6 := Aside0.mk hi453_6; have HC453_6 := Aside0.mk hl453_6; clear hi453_6 hl453_6; replace p453 := eq_true p453; replace q453 := eq_true q453; have ea_ := Option.some.inj (hx452_5.symm.trans hx453_5); injection ea_ with ea_ en_ ec_; subst ea_; subst ec_; clear en_; have ea_ := Option.some.inj (hx452_6.symm.trans hx453_6); injection ea_ with ea_ en_ ec_; subst ea_; subst ec_; clear en_))
   repeat (go_quiet (first | (go_at_call 20; (with_reducible refine (selvedgeref18_Whole.calls k _ _ l0 true _ ?side1 ?side2 A2.out).mono ?_); (case side1 => exact ck HR0.out); (case side2 => exact HC0.out); rintro e w5 ⟨rfl, hb⟩; replace HB := Aside0.mk (below_step (bl HB) hb); (try clear hb); (try clear hb2); (try clear hk); (try clear hi); have p452 : 0 ≤ (0 : Int) := (by omega); have q452 : 0 < (l0.length : Int) := of_decide_eq_true (by assumption); obtain ⟨ad452, A452_5, c452_5, A452_6, c452_6, e452, hx452_0, hx452_1, hx452_2, hx452_3, hx452_4, hx452_5, hx452_6, hl452_5, hi452_5, hl452_6, hi452_6⟩ := at_T42 HR0.out 0 p452 q452; cases e452; have qi452 : (0 < l0.length) = True := eq_true (by omega); (try rw [show ((0 : Int)).toNat = 0 from rfl] at hx452_0); (try rw [show 0 * 7 = 0 from rfl] at hx452_0); (try rw [Addr.add_zero'] at hx452_0); (try rw [show ((0 : Int)).toNat = 0 from rfl] at hx452_1); (try rw [show 0 * 7 = 0 from rfl] at hx452_1); (try rw [Addr.add_zero'] at hx452_1); (try rw [show ((0 : Int)).toNat = 0 from rfl] at hx452_2); (try rw [show 0 * 7 = 0 from rfl] at hx452_2); (try rw [Addr.add_zero'] at hx452_2); (try rw [show ((0 : Int)).toNat = 0 from rfl] at hx452_3); (try rw [show 0 * 7 = 0 from rfl] at hx452_3); (try rw [Addr.add_zero'] at hx452_3); (try rw [show ((0 : Int)).toNat = 0 from rfl] at hx452_4); (try rw [show 0 * 7 = 0 from rfl] at hx452_4); (try rw [Addr.add_zero'] at hx452_4); (try rw [show ((0 : Int)).toNat = 0 from rfl] at hx452_5); (try rw [show 0 * 7 = 0 from rfl] at hx452_5); (try rw [Addr.add_zero'] at hx452_5); (try rw [show ((0 : Int)).toNat = 0 from rfl] at hx452_6); (try rw [show 0 * 7 = 0 from rfl] at hx452_6); (try rw [Addr.add_zero'] at hx452_6); replace hx452_0 := pw_cell_below HB.out hx452_0; replace hx452_1 := pw_cell_below HB.out hx452_1; replace hx452_2 := pw_cell_below HB.out hx452_2; replace hx452_3 := pw_cell_below HB.out hx452_3; replace hx452_4 := pw_cell_below HB.out hx452_4; replace hx452_5 := pw_cell_below HB.out hx452_5; replace hx452_6 := pw_cell_below HB.out hx452_6; have HR452_5 := Aside0.mk hi452_5; have HC452_5 := Aside0.mk hl452_5; clear hi452_5 hl452_5; have HR452_6 := Aside0.mk hi452_6; have HC452_6 := Aside0.mk hl452_6; clear hi452_6 hl452_6; replace p452 := eq_true p452; replace q452 := eq_true q452; have p453 : 0 ≤ (0 : Int) := (by omega); have q453 : 0 < (l0.length : Int) := of_decide_eq_true (by assumption); obtain ⟨ad453, A453_5, c453_5, A453_6, c453_6, e453, hx453_0, hx453_1, hx453_2, hx453_3, hx453_4, hx453_5, hx453_6, hl453_5, hi453_5, hl453_6, hi453_6⟩ := at_T42 HR0.out 0 p453 q453; obtain rfl : ad452 = ad453 := (by injection e453); have qi453 : (0 < l0.length) = True := eq_true (by omega); (try rw [show ((0 : Int)).toNat = 0 from rfl] at hx453_0); (try rw [show 0 * 7 = 0 from rfl] at hx453_0); (try rw [Addr.add_zero'] at hx453_0); (try rw [show ((0 : Int)).toNat = 0 from rfl] at hx453_1); (try rw [show 0 * 7 = 0 from rfl] at hx453_1); (try rw [Addr.add_zero'] at hx453_1); (try rw [show ((0 : Int)).toNat = 0 from rfl] at hx453_2); (try rw [show 0 * 7 = 0 from rfl] at hx453_2); (try rw [Addr.add_zero'] at hx453_2); (try rw [show ((0 : Int)).toNat = 0 from rfl] at hx453_3); (try rw [show 0 * 7 = 0 from rfl] at hx453_3); (try rw [Addr.add_zero'] at hx453_3); (try rw [show ((0 : Int)).toNat = 0 from rfl] at hx453_4); (try rw [show 0 * 7 = 0 from rfl] at hx453_4); (try rw [Addr.add_zero'] at hx453_4); (try rw [show ((0 : Int)).toNat = 0 from rfl] at hx453_5); (try rw [show 0 * 7 = 0 from rfl] at hx453_5); (try rw [Addr.add_zero'] at hx453_5); (try rw [show ((0 : Int)).toNat = 0 from rfl] at hx453_6); (try rw [show 0 * 7 = 0 from rfl] at hx453_6); (try rw [Addr.add_zero'] at hx453_6); replace hx453_0 := pw_cell_below HB.out hx453_0; replace hx453_1 := pw_cell_below HB.out hx453_1; replace hx453_2 := pw_cell_below HB.out hx453_2; replace hx453_3 := pw_cell_below HB.out hx453_3; replace hx453_4 := pw_cell_below HB.out hx453_4; replace hx453_5 := pw_cell_below HB.out hx453_5; replace hx453_6 := pw_cell_below HB.out hx453_6; have HR453_5 := Aside0.mk hi453_5; have HC453_5 := Aside0.mk hl453_5; clear hi453_5 hl453_5; have HR453_6 := Aside0.mk hi453_6; have HC453_6 := Aside0.mk hl453_6; clear hi453_6 hl453_6; replace p453 := eq_true p453; replace q453 := eq_true q453; have ea_ := Option.some.inj (hx452_5.symm.trans hx453_5); injection ea_ with ea_ en_ ec_; subst ea_; subst ec_; clear en_; have ea_ := Option.some.inj (hx452_6.symm.trans hx453_6); injection ea_ with ea_ en_ ec_; subst ea_; subst ec_; clear en_)); try go_wp2_with (first | (go_at_call 20; (with_reducible refine (selvedgeref18_Whole.calls k _ _ l0 true _ ?side1 ?side2 A2.out).mono ?_); (case side1 => exact ck HR0.out); (case side2 => exact HC0.out); rintro e w5 ⟨rfl, hb⟩; replace HB := Aside0.mk (below_step (bl HB) hb); (try clear hb); (try clear hb2); (try clear hk); (try clear hi); have p452 : 0 ≤ (0 : Int) := (by omega); have q452 : 0 < (l0.length : Int) := of_decide_eq_true (by assumption); obtain ⟨ad452, A452_5, c452_5, A452_6, c452_6, e452, hx452_0, hx452_1, hx452_2, hx452_3, hx452_4, hx452_5, hx452_6, hl452_5, hi452_5, hl452_6, hi452_6⟩ := at_T42 HR0.out 0 p452 q452; cases e452; have qi452 : (0 < l0.length) = True := eq_true (by omega); (try rw [show ((0 : Int)).toNat = 0 from rfl] at hx452_0); (try rw [show 0 * 7 = 0 from rfl] at hx452_0); (try rw [Addr.add_zero'] at hx452_0); (try rw [show ((0 : Int)).toNat = 0 from rfl] at hx452_1); (try rw [show 0 * 7 = 0 from rfl] at hx452_1); (try rw [Addr.add_zero'] at hx452_1); (try rw [show ((0 : Int)).toNat = 0 from rfl] at hx452_2); (try rw [show 0 * 7 = 0 from rfl] at hx452_2); (try rw [Addr.add_zero'] at hx452_2); (try rw [show ((0 : Int)).toNat = 0 from rfl] at hx452_3); (try rw [show 0 * 7 = 0 from rfl] at hx452_3); (try rw [Addr.add_zero'] at hx452_3); (try rw [show ((0 : Int)).toNat = 0 from rfl] at hx452_4); (try rw [show 0 * 7 = 0 from rfl] at hx452_4); (try rw [Addr.add_zero'] at hx452_4); (try rw [show ((0 : Int)).toNat = 0 from rfl] at hx452_5); (try rw [show 0 * 7 = 0 from rfl] at hx452_5); (try rw [Addr.add_zero'] at hx452_5); (try rw [show ((0 : Int)).toNat = 0 from rfl] at hx452_6); (try rw [show 0 * 7 = 0 from rfl] at hx452_6); (try rw [Addr.add_zero'] at hx452_6); replace hx452_0 := pw_cell_below HB.out hx452_0; replace hx452_1 := pw_cell_below HB.out hx452_1; replace hx452_2 := pw_cell_below HB.out hx452_2; replace hx452_3 := pw_cell_below HB.out hx452_3; replace hx452_4 := pw_cell_below HB.out hx452_4; replace hx452_5 := pw_cell_below HB.out hx452_5; replace hx452_6 := pw_cell_below HB.out hx452_6; have HR452_5 := Aside0.mk hi452_5; have HC452_5 := Aside0.mk hl452_5; clear hi452_5 hl452_5; have HR452_6 := Aside0.mk hi452_6; have HC452_6 := Aside0.mk hl452_6; clear hi452_6 hl452_6; replace p452 := eq_true p452; replace q452 := eq_true q452; have p453 : 0 ≤ (0 : Int) := (by omega); have q453 : 0 < (l0.length : Int) := of_decide_eq_true (by assumption); obtain ⟨ad453, A453_5, c453_5, A453_6, c453_6, e453, hx453_0, hx453_1, hx453_2, hx453_3, hx453_4, hx453_5, hx453_6, hl453_5, hi453_5, hl453_6, hi453_6⟩ := at_T42 HR0.out 0 p453 q453; obtain rfl : ad452 = ad453 := (by injection e453); have qi453 : (0 < l0.length) = True := eq_true (by omega); (try rw [show ((0 : Int)).toNat = 0 from rfl] at hx453_0); (try rw [show 0 * 7 = 0 from rfl] at hx453_0); (try rw [Addr.add_zero'] at hx453_0); (try rw [show ((0 : Int)).toNat = 0 from rfl] at hx453_1); (try rw [show 0 * 7 = 0 from rfl] at hx453_1); (try rw [Addr.add_zero'] at hx453_1); (try rw [show ((0 : Int)).toNat = 0 from rfl] at hx453_2); (try rw [show 0 * 7 = 0 from rfl] at hx453_2); (try rw [Addr.add_zero'] at hx453_2); (try rw [show ((0 : Int)).toNat = 0 from rfl] at hx453_3); (try rw [show 0 * 7 = 0 from rfl] at hx453_3); (try rw [Addr.add_zero'] at hx453_3); (try rw [show ((0 : Int)).toNat = 0 from rfl] at hx453_4); (try rw [show 0 * 7 = 0 from rfl] at hx453_4); (try rw [Addr.add_zero'] at hx453_4); (try rw [show ((0 : Int)).toNat = 0 from rfl] at hx453_5); (try rw [show 0 * 7 = 0 from rfl] at hx453_5); (try rw [Addr.add_zero'] at hx453_5); (try rw [show ((0 : Int)).toNat = 0 from rfl] at hx453_6); (try rw [show 0 * 7 = 0 from rfl] at hx453_6); (try rw [Addr.add_zero'] at hx453_6); replace hx453_0 := pw_cell_below HB.out hx453_0; replace hx453_1 := pw_cell_below HB.out hx453_1; replace hx453_2 := pw_cell_below HB.out hx453_2; replace hx453_3 := pw_cell_below HB.out hx453_3; replace hx453_4 := pw_cell_below HB.out hx453_4; replace hx453_5 := pw_cell_below HB.out hx453_5; replace hx453_6 := pw_cell_below HB.out hx453_6; have HR453_5 := Aside0.mk hi453_5; have HC453_5 := Aside0.mk hl453_5; clear hi453_5 hl453_5; have HR453_6 := Aside0.mk hi453_6; have HC453_6 := Aside0.mk hl453_6; clear hi453_6 hl453_6; replace p453 := eq_true p453; replace q453 := eq_true q453; have ea_ := Option.some.inj (hx452_5.symm.trans hx453_5); injection ea_ with ea_ en_ ec_; subst ea_; subst ec_; clear en_; have ea_ := Option.some.inj (hx452_6.symm.trans hx453_6); injection ea_ with ea_ en_ ec_; subst ea_; subst ec_; clear en_)))
   go_loopg [3, 4, 5] k (fun kq v3 v4 v5 w' => ∃ (x3_1 : Int) (x4_1 : Int) (x5_1 : Int), v3 = .int .i64 x3_1 ∧ v4 = .int .i64 x4_1 ∧ v5 = .int .i64 x5_1 ∧ Aside0 (selvedgeref18_Spread.l0 kq l0 x3_1 x4_1 x5_1 = some r) ∧ Aside0 (kq ≤ k) ∧ Aside0 (Below w.heap.size w w'))
   case atStart => exact ⟨((rd_T42 l0 0).f2), ((rd_T42 l0 0).f2), (0), (by first | rfl | (simp; done) | (simp [*]; done)), (by first | rfl | (simp; done) | (simp [*]; done)), (by first | rfl | (simp; done) | (simp [*]; done)), H', ⟨Nat.le_refl _⟩, ⟨bl HB⟩⟩
   case round =>
    clear H'
    try clear c2
    try clear p2
    try clear c3
    try clear c4
    try clear c4b0
    try clear c4b1
    try clear p4
    try clear q4
    try clear hx4
    try clear qi4
    try clear hx452_0
    try clear hx452_1
    try clear hx452_2
    try clear hx452_3
    try clear hx452_4
    try clear hx452_5
    try clear hx452_6
    try clear hx453_0
    try clear hx453_1
    try clear hx453_2
    try clear hx453_3
    try clear hx453_4
    try clear hx453_5
    try clear hx453_6
    try clear p452
    try clear p453
    try clear q452
    try clear q453
    obtain ⟨x3_1, x4_1, x5_1, rfl, rfl, rfl, HA, HK1, HB⟩ := hrel
    cases gk with
    | zero => exact absurd HA.out (by simp [selvedgeref18_Spread.l0])
    | succ k1 =>
     have H := HA.out
     clear HA
     simp only [selvedgeref18_Spread.l0] at H
     by_cases c6 : x5_1 < (l0.length : Int)
     ·rw [if_pos c6] at H
      have c6b0 : decide (x5_1 < (l0.length : Int)) = true := decide_eq_true c6
      clear c6
      by_cases c7 : 0 ≤ x5_1
      ·rw [if_pos c7] at H
       have c7b0 : decide (0 ≤ x5_1) = true := decide_eq_true c7
       clear c7
       by_cases c8 : ((rd_T42 l0 x5_1).f2) > x3_1
       ·rw [if_pos c8] at H
        have c8b0 : decide (x3_1 < ((rd_T42 l0 x5_1).f2)) = true := decide_eq_true c8
        clear c8
        by_cases c9 : ((rd_T42 l0 x5_1).f2) < x4_1
        ·rw [if_pos c9] at H
         have c9b0 : decide (((rd_T42 l0 x5_1).f2) < x4_1) = true := decide_eq_true c9
         clear c9
         have H' := Aside0.mk H
         clear H
         have p454 : 0 ≤ (x5_1 : Int) := of_decide_eq_true (by assumption)
         have q454 : x5_1 < (l0.length : Int) := of_decide_eq_true (by assumption)
         obtain ⟨ad454, A454_5, c454_5, A454_6, c454_6, e454, hx454_0, hx454_1, hx454_2, hx454_3, hx454_4, hx454_5, hx454_6, hl454_5, hi454_5, hl454_6, hi454_6⟩ := at_T42 HR0.out x5_1 p454 q454
         obtain rfl : ad452 = ad454 := (by injection e454)
         obtain ⟨hx454_0, hx454_1, hx454_2, hx454_3, hx454_4, hx454_5, hx454_6⟩ := cb7 HB.out hx454_0 hx454_1 hx454_2 hx454_3 hx454_4 hx454_5 hx454_6
         have HR454_5 := Aside0.mk hi454_5
         have HC454_5 := Aside0.mk hl454_5
         clear hi454_5 hl454_5
         have HR454_6 := Aside0.mk hi454_6
         have HC454_6 := Aside0.mk hl454_6
         clear hi454_6 hl454_6
         replace p454 := eq_true p454
         replace q454 := eq_true q454
         have p455 : 0 ≤ (x5_1 : Int) := of_decide_eq_true (by assumption)
         have q455 : x5_1 < (l0.length : Int) := of_decide_eq_true (by assumption)
         obtain ⟨ad455, A455_5, c455_5, A455_6, c455_6, e455, hx455_0, hx455_1, hx455_2, hx455_3, hx455_4, hx455_5, hx455_6, hl455_5, hi455_5, hl455_6, hi455_6⟩ := at_T42 HR0.out x5_1 p455 q455
         obtain rfl : ad452 = ad455 := (by injection e455)
         obtain ⟨hx455_0, hx455_1, hx455_2, hx455_3, hx455_4, hx455_5, hx455_6⟩ := cb7 HB.out hx455_0 hx455_1 hx455_2 hx455_3 hx455_4 hx455_5 hx455_6
         have HR455_5 := Aside0.mk hi455_5
         have HC455_5 := Aside0.mk hl455_5
         clear hi455_5 hl455_5
         have HR455_6 := Aside0.mk hi455_6
         have HC455_6 := Aside0.mk hl455_6
         clear hi455_6 hl455_6
         replace p455 := eq_true p455
         replace q455 := eq_true q455
         have ea_ := Option.some.inj (hx454_5.symm.trans hx455_5)
         injection ea_ with ea_ en_ ec_
         subst ea_
         subst ec_
         clear en_
         have ea_ := Option.some.inj (hx454_6.symm.trans hx455_6)
         injection ea_ with ea_ en_ ec_
         subst ea_
         subst ec_
         clear en_
         have p456 : 0 ≤ (x5_1 : Int) := of_decide_eq_true (by assumption)
         have q456 : x5_1 < (l0.length : Int) := of_decide_eq_true (by assumption)
         obtain ⟨ad456, A456_5, c456_5, A456_6, c456_6, e456, hx456_0, hx456_1, hx456_2, hx456_3, hx456_4, hx456_5, hx456_6, hl456_5, hi456_5, hl456_6, hi456_6⟩ := at_T42 HR0.out x5_1 p456 q456
         obtain rfl : ad452 = ad456 := (by injection e456)
         obtain ⟨hx456_0, hx456_1, hx456_2, hx456_3, hx456_4, hx456_5, hx456_6⟩ := cb7 HB.out hx456_0 hx456_1 hx456_2 hx456_3 hx456_4 hx456_5 hx456_6
         have HR456_5 := Aside0.mk hi456_5
         have HC456_5 := Aside0.mk hl456_5
         clear hi456_5 hl456_5
         have HR456_6 := Aside0.mk hi456_6
         have HC456_6 := Aside0.mk hl456_6
         clear hi456_6 hl456_6
         replace p456 := eq_true p456
         replace q456 := eq_true q456
         have ea_ := Option.some.inj (hx454_5.symm.trans hx456_5)
         injection ea_ with ea_ en_ ec_
         subst ea_
         subst ec_
         clear en_
         have ea_ := Option.some.inj (hx454_6.symm.trans hx456_6)
         injection ea_ with ea_ en_ ec_
         subst ea_
         subst ec_
         clear en_
         have p457 : 0 ≤ (x5_1 : Int) := of_decide_eq_true (by assumption)
         have q457 : x5_1 < (l0.length : Int) := of_decide_eq_true (by assumption)
         obtain ⟨ad457, A457_5, c457_5, A457_6, c457_6, e457, hx457_0, hx457_1, hx457_2, hx457_3, hx457_4, hx457_5, hx457_6, hl457_5, hi457_5, hl457_6, hi457_6⟩ := at_T42 HR0.out x5_1 p457 q457
         obtain rfl : ad452 = ad457 := (by injection e457)
         obtain ⟨hx457_0, hx457_1, hx457_2, hx457_3, hx457_4, hx457_5, hx457_6⟩ := cb7 HB.out hx457_0 hx457_1 hx457_2 hx457_3 hx457_4 hx457_5 hx457_6
         have HR457_5 := Aside0.mk hi457_5
         have HC457_5 := Aside0.mk hl457_5
         clear hi457_5 hl457_5
         have HR457_6 := Aside0.mk hi457_6
         have HC457_6 := Aside0.mk hl457_6
         clear hi457_6 hl457_6
         replace p457 := eq_true p457
         replace q457 := eq_true q457
         have ea_ := Option.some.inj (hx454_5.symm.trans hx457_5)
         injection ea_ with ea_ en_ ec_
         subst ea_
         subst ec_
         clear en_
         have ea_ := Option.some.inj (hx454_6.symm.trans hx457_6)
         injection ea_ with ea_ en_ ec_
         subst ea_
         subst ec_
         clear en_
         go_wp2
         repeat (go_quiet (fail); try go_wp2)
         go_roundg k1
         case measure => have := HK1.out; omega
         case rel => exact ⟨((rd_T42 l0 x5_1).f2), ((rd_T42 l0 x5_1).f2), (wrap64 (x5_1 + 1)), (by first | rfl | (simp; done) | (simp [*]; done)), (by first | rfl | (simp; done) | (simp [*]; done)), (by first | rfl | (simp; done) | (simp [*]; done)), H', ⟨by have := HK1.out; omega⟩, ⟨bl HB⟩⟩
        ·rw [if_neg c9] at H
         have c9b0 : decide (((rd_T42 l0 x5_1).f2) < x4_1) = false := decide_eq_false c9
         clear c9
         have H' := Aside0.mk H
         clear H
         have p454 : 0 ≤ (x5_1 : Int) := of_decide_eq_true (by assumption)
         have q454 : x5_1 < (l0.length : Int) := of_decide_eq_true (by assumption)
         obtain ⟨ad454, A454_5, c454_5, A454_6, c454_6, e454, hx454_0, hx454_1, hx454_2, hx454_3, hx454_4, hx454_5, hx454_6, hl454_5, hi454_5, hl454_6, hi454_6⟩ := at_T42 HR0.out x5_1 p454 q454
         obtain rfl : ad452 = ad454 := (by injection e454)
         obtain ⟨hx454_0, hx454_1, hx454_2, hx454_3, hx454_4, hx454_5, hx454_6⟩ := cb7 HB.out hx454_0 hx454_1 hx454_2 hx454_3 hx454_4 hx454_5 hx454_6
         have HR454_5 := Aside0.mk hi454_5
         have HC454_5 := Aside0.mk hl454_5
         clear hi454_5 hl454_5
         have HR454_6 := Aside0.mk hi454_6
         have HC454_6 := Aside0.mk hl454_6
         clear hi454_6 hl454_6
         replace p454 := eq_true p454
         replace q454 := eq_true q454
         have p455 : 0 ≤ (x5_1 : Int) := of_decide_eq_true (by assumption)
         have q455 : x5_1 < (l0.length : Int) := of_decide_eq_true (by assumption)
         obtain ⟨ad455, A455_5, c455_5, A455_6, c455_6, e455, hx455_0, hx455_1, hx455_2, hx455_3, hx455_4, hx455_5, hx455_6, hl455_5, hi455_5, hl455_6, hi455_6⟩ := at_T42 HR0.out x5_1 p455 q455
         obtain rfl : ad452 = ad455 := (by injection e455)
         obtain ⟨hx455_0, hx455_1, hx455_2, hx455_3, hx455_4, hx455_5, hx455_6⟩ := cb7 HB.out hx455_0 hx455_1 hx455_2 hx455_3 hx455_4 hx455_5 hx455_6
         have HR455_5 := Aside0.mk hi455_5
         have HC455_5 := Aside0.mk hl455_5
         clear hi455_5 hl455_5
         have HR455_6 := Aside0.mk hi455_6
         have HC455_6 := Aside0.mk hl455_6
         clear hi455_6 hl455_6
         replace p455 := eq_true p455
         replace q455 := eq_true q455
         have ea_ := Option.some.inj (hx454_5.symm.trans hx455_5)
         injection ea_ with ea_ en_ ec_
         subst ea_
         subst ec_
         clear en_
         have ea_ := Option.some.inj (hx454_6.symm.trans hx455_6)
         injection ea_ with ea_ en_ ec_
         subst ea_
         subst ec_
         clear en_
         have p456 : 0 ≤ (x5_1 : Int) := of_decide_eq_true (by assumption)
         have q456 : x5_1 < (l0.length : Int) := of_decide_eq_true (by assumption)
         obtain ⟨ad456, A456_5, c456_5, A456_6, c456_6, e456, hx456_0, hx456_1, hx456_2, hx456_3, hx456_4, hx456_5, hx456_6, hl456_5, hi456_5, hl456_6, hi456_6⟩ := at_T42 HR0.out x5_1 p456 q456
         obtain rfl : ad452 = ad456 := (by injection e456)
         obtain ⟨hx456_0, hx456_1, hx456_2, hx456_3, hx456_4, hx456_5, hx456_6⟩ := cb7 HB.out hx456_0 hx456_1 hx456_2 hx456_3 hx456_4 hx456_5 hx456_6
         have HR456_5 := Aside0.mk hi456_5
         have HC456_5 := Aside0.mk hl456_5
         clear hi456_5 hl456_5
         have HR456_6 := Aside0.mk hi456_6
         have HC456_6 := Aside0.mk hl456_6
         clear hi456_6 hl456_6
         replace p456 := eq_true p456
         replace q456 := eq_true q456
         have ea_ := Option.some.inj (hx454_5.symm.trans hx456_5)
         injection ea_ with ea_ en_ ec_
         subst ea_
         subst ec_
         clear en_
         have ea_ := Option.some.inj (hx454_6.symm.trans hx456_6)
         injection ea_ with ea_ en_ ec_
         subst ea_
         subst ec_
         clear en_
         go_wp2
         repeat (go_quiet (fail); try go_wp2)
         go_roundg k1
         case measure => have := HK1.out; omega
         case rel => exact ⟨((rd_T42 l0 x5_1).f2), (x4_1), (wrap64 (x5_1 + 1)), (by first | rfl | (simp; done) | (simp [*]; done)), (by first | rfl | (simp; done) | (simp [*]; done)), (by first | rfl | (simp; done) | (simp [*]; done)), H', ⟨by have := HK1.out; omega⟩, ⟨bl HB⟩⟩
       ·rw [if_neg c8] at H
        have c8b0 : decide (x3_1 < ((rd_T42 l0 x5_1).f2)) = false := decide_eq_false c8
        clear c8
        by_cases c10 : ((rd_T42 l0 x5_1).f2) < x4_1
        ·rw [if_pos c10] at H
         have c10b0 : decide (((rd_T42 l0 x5_1).f2) < x4_1) = true := decide_eq_true c10
         clear c10
         have H' := Aside0.mk H
         clear H
         have p454 : 0 ≤ (x5_1 : Int) := of_decide_eq_true (by assumption)
         have q454 : x5_1 < (l0.length : Int) := of_decide_eq_true (by assumption)
         obtain ⟨ad454, A454_5, c454_5, A454_6, c454_6, e454, hx454_0, hx454_1, hx454_2, hx454_3, hx454_4, hx454_5, hx454_6, hl454_5, hi454_5, hl454_6, hi454_6⟩ := at_T42 HR0.out x5_1 p454 q454
         obtain rfl : ad452 = ad454 := (by injection e454)
         obtain ⟨hx454_0, hx454_1, hx454_2, hx454_3, hx454_4, hx454_5, hx454_6⟩ := cb7 HB.out hx454_0 hx454_1 hx454_2 hx454_3 hx454_4 hx454_5 hx454_6
         have HR454_5 := Aside0.mk hi454_5
         have HC454_5 := Aside0.mk hl454_5
         clear hi454_5 hl454_5
         have HR454_6 := Aside0.mk hi454_6
         have HC454_6 := Aside0.mk hl454_6
         clear hi454_6 hl454_6
         replace p454 := eq_true p454
         replace q454 := eq_true q454
         have p458 : 0 ≤ (x5_1 : Int) := of_decide_eq_true (by assumption)
         have q458 : x5_1 < (l0.length : Int) := of_decide_eq_true (by assumption)
         obtain ⟨ad458, A458_5, c458_5, A458_6, c458_6, e458, hx458_0, hx458_1, hx458_2, hx458_3, hx458_4, hx458_5, hx458_6, hl458_5, hi458_5, hl458_6, hi458_6⟩ := at_T42 HR0.out x5_1 p458 q458
         obtain rfl : ad452 = ad458 := (by injection e458)
         obtain ⟨hx458_0, hx458_1, hx458_2, hx458_3, hx458_4, hx458_5, hx458_6⟩ := cb7 HB.out hx458_0 hx458_1 hx458_2 hx458_3 hx458_4 hx458_5 hx458_6
         have HR458_5 := Aside0.mk hi458_5
         have HC458_5 := Aside0.mk hl458_5
         clear hi458_5 hl458_5
         have HR458_6 := Aside0.mk hi458_6
         have HC458_6 := Aside0.mk hl458_6
         clear hi458_6 hl458_6
         replace p458 := eq_true p458
         replace q458 := eq_true q458
         have ea_ := Option.some.inj (hx454_5.symm.trans hx458_5)
         injection ea_ with ea_ en_ ec_
         subst ea_
         subst ec_
         clear en_
         have ea_ := Option.some.inj (hx454_6.symm.trans hx458_6)
         injection ea_ with ea_ en_ ec_
         subst ea_
         subst ec_
         clear en_
         have p459 : 0 ≤ (x5_1 : Int) := of_decide_eq_true (by assumption)
         have q459 : x5_1 < (l0.length : Int) := of_decide_eq_true (by assumption)
         obtain ⟨ad459, A459_5, c459_5, A459_6, c459_6, e459, hx459_0, hx459_1, hx459_2, hx459_3, hx459_4, hx459_5, hx459_6, hl459_5, hi459_5, hl459_6, hi459_6⟩ := at_T42 HR0.out x5_1 p459 q459
         obtain rfl : ad452 = ad459 := (by injection e459)
         obtain ⟨hx459_0, hx459_1, hx459_2, hx459_3, hx459_4, hx459_5, hx459_6⟩ := cb7 HB.out hx459_0 hx459_1 hx459_2 hx459_3 hx459_4 hx459_5 hx459_6
         have HR459_5 := Aside0.mk hi459_5
         have HC459_5 := Aside0.mk hl459_5
         clear hi459_5 hl459_5
         have HR459_6 := Aside0.mk hi459_6
         have HC459_6 := Aside0.mk hl459_6
         clear hi459_6 hl459_6
         replace p459 := eq_true p459
         replace q459 := eq_true q459
         have ea_ := Option.some.inj (hx454_5.symm.trans hx459_5)
         injection ea_ with ea_ en_ ec_
         subst ea_
         subst ec_
         clear en_
         have ea_ := Option.some.inj (hx454_6.symm.trans hx459_6)
         injection ea_ with ea_ en_ ec_
         subst ea_
         subst ec_
         clear en_
         go_wp2
         repeat (go_quiet (fail); try go_wp2)
         go_roundg k1
         case measure => have := HK1.out; omega
         case rel => exact ⟨(x3_1), ((rd_T42 l0 x5_1).f2), (wrap64 (x5_1 + 1)), (by first | rfl | (simp; done) | (simp [*]; done)), (by first | rfl | (simp; done) | (simp [*]; done)), (by first | rfl | (simp; done) | (simp [*]; done)), H', ⟨by have := HK1.out; omega⟩, ⟨bl HB⟩⟩
        ·rw [if_neg c10] at H
         have c10b0 : decide (((rd_T42 l0 x5_1).f2) < x4_1) = false := decide_eq_false c10
         clear c10
         have H' := Aside0.mk H
         clear H
         have p454 : 0 ≤ (x5_1 : Int) := of_decide_eq_true (by assumption)
         have q454 : x5_1 < (l0.length : Int) := of_decide_eq_true (by assumption)
         obtain ⟨ad454, A454_5, c454_5, A454_6, c454_6, e454, hx454_0, hx454_1, hx454_2, hx454_3, hx454_4, hx454_5, hx454_6, hl454_5, hi454_5, hl454_6, hi454_6⟩ := at_T42 HR0.out x5_1 p454 q454
         obtain rfl : ad452 = ad454 := (by injection e454)
         obtain ⟨hx454_0, hx454_1, hx454_2, hx454_3, hx454_4, hx454_5, hx454_6⟩ := cb7 HB.out hx454_0 hx454_1 hx454_2 hx454_3 hx454_4 hx454_5 hx454_6
         have HR454_5 := Aside0.mk hi454_5
         have HC454_5 := Aside0.mk hl454_5
         clear hi454_5 hl454_5
         have HR454_6 := Aside0.mk hi454_6
         have HC454_6 := Aside0.mk hl454_6
         clear hi454_6 hl454_6
         replace p454 := eq_true p454
         replace q454 := eq_true q454
         have p458 : 0 ≤ (x5_1 : Int) := of_decide_eq_true (by assumption)
         have q458 : x5_1 < (l0.length : Int) := of_decide_eq_true (by assumption)
         obtain ⟨ad458, A458_5, c458_5, A458_6, c458_6, e458, hx458_0, hx458_1, hx458_2, hx458_3, hx458_4, hx458_5, hx458_6, hl458_5, hi458_5, hl458_6, hi458_6⟩ := at_T42 HR0.out x5_1 p458 q458
         obtain rfl : ad452 = ad458 := (by injection e458)
         obtain ⟨hx458_0, hx458_1, hx458_2, hx458_3, hx458_4, hx458_5, hx458_6⟩ := cb7 HB.out hx458_0 hx458_1 hx458_2 hx458_3 hx458_4 hx458_5 hx458_6
         have HR458_5 := Aside0.mk hi458_5
         have HC458_5 := Aside0.mk hl458_5
         clear hi458_5 hl458_5
         have HR458_6 := Aside0.mk hi458_6
         have HC458_6 := Aside0.mk hl458_6
         clear hi458_6 hl458_6
         replace p458 := eq_true p458
         replace q458 := eq_true q458
         have ea_ := Option.some.inj (hx454_5.symm.trans hx458_5)
         injection ea_ with ea_ en_ ec_
         subst ea_
         subst ec_
         clear en_
         have ea_ := Option.some.inj (hx454_6.symm.trans hx458_6)
         injection ea_ with ea_ en_ ec_
         subst ea_
         subst ec_
         clear en_
         go_wp2
         repeat (go_quiet (fail); try go_wp2)
         go_roundg k1
         case measure => have := HK1.out; omega
         case rel => exact ⟨(x3_1), (x4_1), (wrap64 (x5_1 + 1)), (by first | rfl | (simp; done) | (simp [*]; done)), (by first | rfl | (simp; done) | (simp [*]; done)), (by first | rfl | (simp; done) | (simp [*]; done)), H', ⟨by have := HK1.out; omega⟩, ⟨bl HB⟩⟩
      ·rw [if_neg c7] at H
       exact absurd H (by simp)
     ·rw [if_neg c6] at H
      have c6b0 : decide (x5_1 < (l0.length : Int)) = false := decide_eq_false c6
      clear c6
      obtain rfl := Option.some.inj H
      go_wp2
      repeat (go_quiet (fail); try go_wp2)
      go_ret
      exact ⟨by first | rfl | (simp [errW_none, errW_some] <;> rfl) | (simp [*, errW_none, errW_some] <;> rfl), bl HB⟩
  ·rw [if_neg c4] at H
   exact absurd H (by simp)
 ·replace c3 := Bool.eq_false_iff.mpr c3
  subst c3
  have H1 : (some 0) = some r := by rw [if_neg (show ¬ (false = true) by decide)] at H; exact H
  clear H
  have H := H1
  clear H1
  obtain rfl := Option.some.inj H
  go_enter Try.func27, Try.ntmps27
  go_wp2_with (first | (go_at_call 20; (with_reducible refine (selvedgeref18_Whole.calls k _ _ l0 false _ ?side1 ?side2 A2.out).mono ?_); (case side1 => exact ck HR0.out); (case side2 => exact HC0.out); rintro e w11 ⟨rfl, hb⟩; replace HB := Aside0.mk (below_step (bl HB) hb); (try clear hb); (try clear hb2); (try clear hk); (try clear hi)))
  repeat (go_quiet (first | (go_at_call 20; (with_reducible refine (selvedgeref18_Whole.calls k _ _ l0 false _ ?side1 ?side2 A2.out).mono ?_); (case side1 => exact ck HR0.out); (case side2 => exact HC0.out); rintro e w11 ⟨rfl, hb⟩; replace HB := Aside0.mk (below_step (bl HB) hb); (try clear hb); (try clear hb2); (try clear hk); (try clear hi))); try go_wp2_with (first | (go_at_call 20; (with_reducible refine (selvedgeref18_Whole.calls k _ _ l0 false _ ?side1 ?side2 A2.out).mono ?_); (case side1 => exact ck HR0.out); (case side2 => exact HC0.out); rintro e w11 ⟨rfl, hb⟩; replace HB := Aside0.mk (below_step (bl HB) hb); (try clear hb); (try clear hb2); (try clear hk); (try clear hi))))
  go_ret
  exact ⟨by first | rfl | (simp [errW_none, errW_some] <;> rfl) | (simp [*, errW_none, errW_some] <;> rfl), bl HB⟩


end Go.Proofs.Ytehjmmedghcndaa.PG
