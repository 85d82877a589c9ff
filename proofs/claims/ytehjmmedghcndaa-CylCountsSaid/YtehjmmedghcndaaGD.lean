import Derived.Test.YtehjmmedghcndaaPGx0
import Derived.Test.YtehjmmedghcndaaG3
import Derived.Test.YtehjmmedghcndaaLT
namespace Go.Proofs.Ytehjmmedghcndaa.PG
open Go.RowKit Go.Proofs.YtehjmmedghcndaaW.PrintWords Go.Proofs.YtehjmmedghcndaaW.PrintLast Go.Proofs.YtehjmmedghcndaaW.PrintMore
attribute [local go_sem] max2_int min2_int max_two min_two max_three min_three max_four min_four run_store_one   -- for this text's walks alone
set_option linter.unusedVariables false
set_option linter.unusedSimpArgs false
/-! ### selvedgeref18_Free: function 24 -/
def selvedgeref18_Free.l0 : Nat → List (S42) → Int → Int → Int → Option (Int × Int)
 | 0, _, _, _, _ => none
 | k + 1, x0, x4, x5, x6 => (selvedgeref18_Whole.f k x0).bind fun t425 => (if t425 = true then (if x6 < (x0.length : Int) then (if 0 ≤ x6 then (selvedgeref18_Free.l0 k x0 (wrap64 (x4 + ((rd_T42 x0 x6).f2))) (wrap64 (x5 + ((rd_T42 x0 x6).f3))) (wrap64 (x6 + 1))) else (none)) else (some (x4, x5))) else (some (x4, x5)))
def selvedgeref18_Free.f (k : Nat) (l0 : List (S42)) : Option (Int × Int) := selvedgeref18_Free.l0 k l0 0 0 0
set_option maxHeartbeats 8000000 in
set_option maxRecDepth 100000 in
theorem selvedgeref18_Free.calls (k : Nat) (A0 : Option Addr) (c0 : Nat) (l0 : List (S42)) (r1 : Int) (r2 : Int) (w : World) (hr0 : Kd.C k42 w A0 l0.length l0) (hc0 : l0.length ≤ c0) (h : selvedgeref18_Free.f k l0 = some (r1, r2)) :
  Calls Try.prog 24 #[.slice A0 l0.length c0] w fun e w' => e = .returned (.tuple #[.int .i64 r1, .int .i64 r2]) ∧ Below w.heap.size w w' := by
 have HR0 := Aside0.mk hr0
 have HC0 := Aside0.mk hc0
 clear hr0 hc0
 have HB := Aside0.mk (Below.refl w.heap.size w)
 have H : (selvedgeref18_Free.l0 k l0 0 0 0) = some (r1, r2) := h
 clear h
 have H' := Aside0.mk H
 clear H
 go_enter Try.func24, Try.ntmps24
 go_wp2
 go_loopg [4, 5, 6] k (fun kq v4 v5 v6 w' => ∃ (x4_1 : Int) (x5_1 : Int) (x6_1 : Int), v4 = .int .i64 x4_1 ∧ v5 = .int .i64 x5_1 ∧ v6 = .int .i64 x6_1 ∧ Aside0 (selvedgeref18_Free.l0 kq l0 x4_1 x5_1 x6_1 = some (r1, r2)) ∧ Aside0 (kq ≤ k) ∧ Aside0 (Below w.heap.size w w'))
 case atStart => exact ⟨(0), (0), (0), (by first | rfl | (simp; done) | (simp [*]; done)), (by first | rfl | (simp; done) | (simp [*]; done)), (by first | rfl | (simp; done) | (simp [*]; done)), H', ⟨Nat.le_refl _⟩, ⟨bl HB⟩⟩
 case round =>
  clear H'
  obtain ⟨x4_1, x5_1, x6_1, rfl, rfl, rfl, HA, HK1, HB⟩ := hrel
  cases gk with
  | zero => exact absurd HA.out (by simp [selvedgeref18_Free.l0])
  | succ k1 =>
   have H := HA.out
   clear HA
   simp only [selvedgeref18_Free.l0] at H
   replace H := Option.bind_eq_some_iff.mp H
   obtain ⟨t425, A20, H⟩ := H
   try dsimp -implicitDefEqProofs -simprocs only at H
   have A2 := Aside0.mk A20
   clear A20
   by_cases c3 : t425 = true
   ·subst c3
    have H1 : (if x6_1 < (l0.length : Int) then (if 0 ≤ x6_1 then (selvedgeref18_Free.l0 k1 l0 (wrap64 (x4_1 + ((rd_T42 l0 x6_1).f2))) (wrap64 (x5_1 + ((rd_T42 l0 x6_1).f3))) (wrap64 (x6_1 + 1))) else (none)) else (some (x4_1, x5_1))) = some (r1, r2) := by rw [if_pos rfl] at H; exact H
    clear H
    have H := H1
    clear H1
    by_cases c4 : x6_1 < (l0.length : Int)
    ·rw [if_pos c4] at H
     have c4b0 : decide (x6_1 < (l0.length : Int)) = true := decide_eq_true c4
     clear c4
     by_cases c5 : 0 ≤ x6_1
     ·rw [if_pos c5] at H
      have c5b0 : decide (0 ≤ x6_1) = true := decide_eq_true c5
      clear c5
      have H' := Aside0.mk H
      clear H
      go_wp2_with (first | ((with_reducible refine gate_callee (f := 20) rfl ?_); refine goesL_ (some 8) rfl rfl Try.func20 (by kernel_rfl) rfl #[.slice A0 l0.length c0] rfl (by simp only [List.map_toArray, List.map_cons, List.map_nil]; first | done | rfl) ?_; (with_reducible refine (selvedgeref18_Whole.calls k1 _ _ l0 true _ ?side1 ?side2 A2.out).mono ?_); (case side1 => exact ck (Kd.C_below HR0.out HB.out)); (case side2 => exact HC0.out); rintro e w6 ⟨rfl, hb⟩; refine ⟨_, rfl, ?_⟩; replace HB := Aside0.mk (below_step (bl HB) hb); (try clear hb); (try clear hb2); (try clear hk); (try clear hi); have p426 : 0 ≤ (x6_1 : Int) := of_decide_eq_true (by assumption); have q426 : x6_1 < (l0.length : Int) := of_decide_eq_true (by assumption); obtain ⟨ad426, A426_5, c426_5, A426_6, c426_6, e426, hx426_0, hx426_1, hx426_2, hx426_3, hx426_4, hx426_5, hx426_6, hl426_5, hi426_5, hl426_6, hi426_6⟩ := at_T42 HR0.out x6_1 p426 q426; cases e426; replace hx426_0 := pw_cell_below HB.out hx426_0; replace hx426_1 := pw_cell_below HB.out hx426_1; replace hx426_2 := pw_cell_below HB.out hx426_2; replace hx426_3 := pw_cell_below HB.out hx426_3; replace hx426_4 := pw_cell_below HB.out hx426_4; replace hx426_5 := pw_cell_below HB.out hx426_5; replace hx426_6 := pw_cell_below HB.out hx426_6; have HR426_5 := Aside0.mk hi426_5; have HC426_5 := Aside0.mk hl426_5; clear hi426_5 hl426_5; have HR426_6 := Aside0.mk hi426_6; have HC426_6 := Aside0.mk hl426_6; clear hi426_6 hl426_6; replace p426 := eq_true p426; replace q426 := eq_true q426; have p427 : 0 ≤ (x6_1 : Int) := of_decide_eq_true (by assumption); have q427 : x6_1 < (l0.length : Int) := of_decide_eq_true (by assumption); obtain ⟨ad427, A427_5, c427_5, A427_6, c427_6, e427, hx427_0, hx427_1, hx427_2, hx427_3, hx427_4, hx427_5, hx427_6, hl427_5, hi427_5, hl427_6, hi427_6⟩ := at_T42 HR0.out x6_1 p427 q427; obtain rfl : ad426 = ad427 := (by injection e427); replace hx427_0 := pw_cell_below HB.out hx427_0; replace hx427_1 := pw_cell_below HB.out hx427_1; replace hx427_2 := pw_cell_below HB.out hx427_2; replace hx427_3 := pw_cell_below HB.out hx427_3; replace hx427_4 := pw_cell_below HB.out hx427_4; replace hx427_5 := pw_cell_below HB.out hx427_5; replace hx427_6 := pw_cell_below HB.out hx427_6; have HR427_5 := Aside0.mk hi427_5; have HC427_5 := Aside0.mk hl427_5; clear hi427_5 hl427_5; have HR427_6 := Aside0.mk hi427_6; have HC427_6 := Aside0.mk hl427_6; clear hi427_6 hl427_6; replace p427 := eq_true p427; replace q427 := eq_true q427; have ea_ := Option.some.inj (hx426_5.symm.trans hx427_5); injection ea_ with ea_ en_ ec_; subst ea_; subst ec_; clear en_; have ea_ := Option.some.inj (hx426_6.symm.trans hx427_6); injection ea_ with ea_ en_ ec_; subst ea_; subst ec_; clear en_))
      go_roundg k1
      case measure => have := HK1.out; omega
      case rel => exact ⟨(wrap64 (x4_1 + ((rd_T42 l0 x6_1).f2))), (wrap64 (x5_1 + ((rd_T42 l0 x6_1).f3))), (wrap64 (x6_1 + 1)), (by first | rfl | (simp; done) | (simp [*]; done)), (by first | rfl | (simp; done) | (simp [*]; done)), (by first | rfl | (simp; done) | (simp [*]; done)), H', ⟨by have := HK1.out; omega⟩, ⟨bl HB⟩⟩
     ·rw [if_neg c5] at H
      exact absurd H (by simp)
    ·rw [if_neg c4] at H
     have c4b0 : decide (x6_1 < (l0.length : Int)) = false := decide_eq_false c4
     clear c4
     simp only [Option.some.injEq, Prod.mk.injEq] at H
     obtain ⟨rfl, rfl⟩ := H
     go_wp2_with (first | ((with_reducible refine gate_callee (f := 20) rfl ?_); refine goesL_ (some 8) rfl rfl Try.func20 (by kernel_rfl) rfl #[.slice A0 l0.length c0] rfl (by simp only [List.map_toArray, List.map_cons, List.map_nil]; first | done | rfl) ?_; (with_reducible refine (selvedgeref18_Whole.calls k1 _ _ l0 true _ ?side1 ?side2 A2.out).mono ?_); (case side1 => exact ck (Kd.C_below HR0.out HB.out)); (case side2 => exact HC0.out); rintro e w7 ⟨rfl, hb⟩; refine ⟨_, rfl, ?_⟩; replace HB := Aside0.mk (below_step (bl HB) hb); (try clear hb); (try clear hb2); (try clear hk); (try clear hi)))
     go_ret2
     exact ⟨by first | rfl | (simp [errW_none, errW_some] <;> rfl) | (simp [*, errW_none, errW_some] <;> rfl), bl HB⟩
   ·replace c3 := Bool.eq_false_iff.mpr c3
    subst c3
    have H1 : (some (x4_1, x5_1)) = some (r1, r2) := by rw [if_neg (show ¬ (false = true) by decide)] at H; exact H
    clear H
    have H := H1
    clear H1
    simp only [Option.some.injEq, Prod.mk.injEq] at H
    obtain ⟨rfl, rfl⟩ := H
    go_wp2_with (first | ((with_reducible refine gate_callee (f := 20) rfl ?_); refine goesL_ (some 8) rfl rfl Try.func20 (by kernel_rfl) rfl #[.slice A0 l0.length c0] rfl (by simp only [List.map_toArray, List.map_cons, List.map_nil]; first | done | rfl) ?_; (with_reducible refine (selvedgeref18_Whole.calls k1 _ _ l0 false _ ?side1 ?side2 A2.out).mono ?_); (case side1 => exact ck (Kd.C_below HR0.out HB.out)); (case side2 => exact HC0.out); rintro e w8 ⟨rfl, hb⟩; refine ⟨_, rfl, ?_⟩; replace HB := Aside0.mk (below_step (bl HB) hb); (try clear hb); (try clear hb2); (try clear hk); (try clear hi)))
    go_ret2
    exact ⟨by first | rfl | (simp [errW_none, errW_some] <;> rfl) | (simp [*, errW_none, errW_some] <;> rfl), bl HB⟩


end Go.Proofs.Ytehjmmedghcndaa.PG
