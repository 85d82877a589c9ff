import Derived.Test.YtehjmmedghcndaaPGx0
import Derived.Test.YtehjmmedghcndaaG3
import Derived.Test.YtehjmmedghcndaaCN
import Derived.Test.YtehjmmedghcndaaGD
import Derived.Test.YtehjmmedghcndaaLT
namespace Go.Proofs.Ytehjmmedghcndaa.PG
open Go.RowKit Go.Proofs.YtehjmmedghcndaaW.PrintWords Go.Proofs.YtehjmmedghcndaaW.PrintLast Go.Proofs.YtehjmmedghcndaaW.PrintMore
attribute [local go_sem] max2_int min2_int max_two min_two max_three min_three max_four min_four run_store_one   -- for this text's walks alone
set_option linter.unusedVariables false
set_option linter.unusedSimpArgs false
/-! ### selvedgeref18_File: function 41 -/
mutual
def selvedgeref18_File.l0 : Nat → List (S42) → Int → List Int → Int → Option ((List (S42)) × Int × Int × Int)
 | 0, _, _, _, _ => none
 | k + 1, x0, x1, x7, x8 => if x8 < (x0.length : Int) then (if x7.length < 17592186044416 then (selvedgeref18_File.l0 k x0 x1 (x7 ++ [x8]) (wrap64 (x8 + 1))) else (none)) else (selvedgeref18_File.l1 k x0 x1 x7 0)
def selvedgeref18_File.l1 : Nat → List (S42) → Int → List Int → Int → Option ((List (S42)) × Int × Int × Int)
 | 0, _, _, _, _ => none
 | k + 1, x0, x1, x7, x9 => if x9 < (x7.length : Int) then (if 0 ≤ x9 then (if (x0.length : Int) = 0 then (none) else (if (rd x7 x9) ≤ (x0.length : Int) then (if 0 ≤ (Int.tmod (wrap64 (x1 + (rd x7 x9))) (x0.length : Int)) then (if (Int.tmod (wrap64 (x1 + (rd x7 x9))) (x0.length : Int)) < (x0.length : Int) then (if ((rd_T42 x0 (Int.tmod (wrap64 (x1 + (rd x7 x9))) (x0.length : Int))).f3) > 0 then ((selvedgeref18_first.f x0 (Int.tmod (wrap64 (x1 + (rd x7 x9))) (x0.length : Int))).bind fun bt817 => (some (bt817.1, bt817.2.1, bt817.2.2.1, bt817.2.2.2))) else (selvedgeref18_File.l1 k x0 x1 x7 (wrap64 (x9 + 1)))) else (none)) else (none)) else (selvedgeref18_File.l1 k x0 x1 x7 (wrap64 (x9 + 1))))) else (none)) else (some (([] : List (S42)), 0, 0, 4))
end
def selvedgeref18_File.f (k : Nat) (l0 : List (S42)) (a1 : Int) : Option ((List (S42)) × Int × Int × Int) := (selvedgeref18_Whole.f k l0).bind fun t807 => (if t807 = true then (if a1 < 0 then (some (([] : List (S42)), 0, 0, 2)) else (if a1 ≥ (l0.length : Int) then (some (([] : List (S42)), 0, 0, 2)) else (selvedgeref18_File.l0 k l0 a1 (([0, 1, 3, 7, 15] : List Int)) 1))) else (some (([] : List (S42)), 0, 0, 3)))
set_option maxHeartbeats 8000000 in
set_option maxRecDepth 100000 in
theorem selvedgeref18_File.calls (k : Nat) (A0 : Option Addr) (c0 : Nat) (l0 : List (S42)) (a1 : Int) (r1 : List (S42)) (r2 : Int) (r3 : Int) (r4 : Int) (w : World) (hr0 : Kd.C k42 w A0 l0.length l0) (hc0 : l0.length ≤ c0) (h : selvedgeref18_File.f k l0 a1 = some (r1, r2, r3, r4)) :
  Calls Try.prog 41 #[.slice A0 l0.length c0, .int .i64 a1] w fun e w' => ∃ v0_ : Value, e = .returned (.tuple #[v0_, .agg #[.int .i64 r2, .int .i64 r3], .int .i64 r4]) ∧ Kd.S k42 42 w' w.heap.size (fun _ => True) v0_ r1 ∧ Below w.heap.size w w' := by
 have hu24 := Try.underlying24
 have HR0 := Aside0.mk hr0
 have HC0 := Aside0.mk hc0
 clear hr0 hc0
 have HB := Aside0.mk (Below.refl w.heap.size w)
 have H : ((selvedgeref18_Whole.f k l0).bind fun t807 => (if t807 = true then (if a1 < 0 then (some (([] : List (S42)), 0, 0, 2)) else (if a1 ≥ (l0.length : Int) then (some (([] : List (S42)), 0, 0, 2)) else (selvedgeref18_File.l0 k l0 a1 (([0, 1, 3, 7, 15] : List Int)) 1))) else (some (([] : List (S42)), 0, 0, 3)))) = some (r1, r2, r3, r4) := h
 clear h
 replace H := Option.bind_eq_some_iff.mp H
 obtain ⟨t807, A30, H⟩ := H
 try dsimp -implicitDefEqProofs -simprocs only at H
 have A3 := Aside0.mk A30
 clear A30
 by_cases c4 : t807 = true
 ·subst c4
  have H1 : (if a1 < 0 then (some (([] : List (S42)), 0, 0, 2)) else (if a1 ≥ (l0.length : Int) then (some (([] : List (S42)), 0, 0, 2)) else (selvedgeref18_File.l0 k l0 a1 (([0, 1, 3, 7, 15] : List Int)) 1))) = some (r1, r2, r3, r4) := by rw [if_pos rfl] at H; exact H
  clear H
  have H := H1
  clear H1
  by_cases c5 : a1 < 0
  ·rw [if_pos c5] at H
   have c5b0 : decide (a1 < 0) = true := decide_eq_true c5
   clear c5
   simp only [Option.some.injEq, Prod.mk.injEq] at H
   obtain ⟨rfl, rfl, rfl, rfl⟩ := H
   go_enter Try.func41, Try.ntmps41
   go_wp2_with (first | ((with_reducible refine gate_dst (N := 5) rfl ?_); (try (refine gate_guard (by rfl) ?_; dsimp only)); refine box_event rfl (N := 5) rfl (cs := #[.int .i64 0, .int .i64 0]) (t := 24) (by first | (go_simp; done) | (go_simp; rfl)) ?_; intro gb806 hg w6 hbox hb; have BK806 := Aside0.mk (hbox); have GW806 := gs HB hg; have GE806 := gs HB hg; replace HB := Aside0.mk (below_step (bl HB) hb); clear hb hbox hg) | ((with_reducible refine gate_callee (f := 20) rfl ?_); refine goesL_ (some 13) rfl rfl Try.func20 (by kernel_rfl) rfl #[.slice A0 l0.length c0] rfl (by simp only [List.map_toArray, List.map_cons, List.map_nil]; first | done | rfl) ?_; (with_reducible refine (selvedgeref18_Whole.calls k _ _ l0 true _ ?side1 ?side2 A3.out).mono ?_); (case side1 => exact ck (Kd.C_below HR0.out HB.out)); (case side2 => exact HC0.out); rintro e w7 ⟨rfl, hb⟩; refine ⟨_, rfl, ?_⟩; replace BK806 := Aside0.mk (bb BK806 hb); replace HB := Aside0.mk (below_step (bs HB (by simp [ag, GE806.out])) hb); (try clear hb); (try clear hb2); (try clear hk); (try clear hi); obtain ⟨hcz8_0, hcz8_1, hfz8_0, hfz8_1⟩ := cf2 BK806))
   refine bodyPost_ret (results_list (rs := [.tmp 4, .cell 5 24, .tmp 6]) rfl (by simp) (.tmp (.cell gb806 24 #[.int .i64 0, .int .i64 0] (0, 0) _ rfl (by (with_reducible repeat (first | refine blk_drewN ?_ _ | refine blk_drew ?_ | refine blk_alloc ?_ _)); refine blk_put (cs := #[.int .i64 0, .int .i64 0]) ?_ 1 _ rfl; (with_reducible repeat (first | refine blk_drewN ?_ _ | refine blk_drew ?_ | refine blk_alloc ?_ _)); refine blk_put (cs := #[.int .i64 0, .int .i64 0]) ?_ 0 _ rfl; (with_reducible repeat (first | refine blk_drewN ?_ _ | refine blk_drew ?_ | refine blk_alloc ?_ _)); exact BK806.out) Try.underlying24 rfl (by kernel_rfl) (.tmp .nil)))) rfl ?_
   exact ⟨_, by first | rfl | (simp [errW_none, errW_some] <;> rfl) | (simp [*, errW_none, errW_some] <;> rfl), by first | exact Kd.S_nil _ _ _ _ _ | exact Kd.N_nil _ _ _ _ _ | exact Kd.V_nil _ _ _ _ _ | exact Kd.Q_nil _ _ _ _ _ | exact Kd.R_nil _ _ _ _ _, bs HB (by simp [ag, GE806.out])⟩
  ·rw [if_neg c5] at H
   have c5b0 : decide (a1 < 0) = false := decide_eq_false c5
   clear c5
   by_cases c9 : a1 ≥ (l0.length : Int)
   ·rw [if_pos c9] at H
    have c9b0 : decide ((l0.length : Int) ≤ a1) = true := decide_eq_true c9
    clear c9
    simp only [Option.some.injEq, Prod.mk.injEq] at H
    obtain ⟨rfl, rfl, rfl, rfl⟩ := H
    go_enter Try.func41, Try.ntmps41
    go_wp2_with (first | ((with_reducible refine gate_dst (N := 5) rfl ?_); (try (refine gate_guard (by rfl) ?_; dsimp only)); refine box_event rfl (N := 5) rfl (cs := #[.int .i64 0, .int .i64 0]) (t := 24) (by first | (go_simp; done) | (go_simp; rfl)) ?_; intro gb806 hg w10 hbox hb; have BK806 := Aside0.mk (hbox); have GW806 := gs HB hg; have GE806 := gs HB hg; replace HB := Aside0.mk (below_step (bl HB) hb); clear hb hbox hg) | ((with_reducible refine gate_callee (f := 20) rfl ?_); refine goesL_ (some 13) rfl rfl Try.func20 (by kernel_rfl) rfl #[.slice A0 l0.length c0] rfl (by simp only [List.map_toArray, List.map_cons, List.map_nil]; first | done | rfl) ?_; (with_reducible refine (selvedgeref18_Whole.calls k _ _ l0 true _ ?side1 ?side2 A3.out).mono ?_); (case side1 => exact ck (Kd.C_below HR0.out HB.out)); (case side2 => exact HC0.out); rintro e w11 ⟨rfl, hb⟩; refine ⟨_, rfl, ?_⟩; replace BK806 := Aside0.mk (bb BK806 hb); replace HB := Aside0.mk (below_step (bs HB (by simp [ag, GE806.out])) hb); (try clear hb); (try clear hb2); (try clear hk); (try clear hi); obtain ⟨hcz12_0, hcz12_1, hfz12_0, hfz12_1⟩ := cf2 BK806))
    refine bodyPost_ret (results_list (rs := [.tmp 4, .cell 5 24, .tmp 6]) rfl (by simp) (.tmp (.cell gb806 24 #[.int .i64 0, .int .i64 0] (0, 0) _ rfl (by (with_reducible repeat (first | refine blk_drewN ?_ _ | refine blk_drew ?_ | refine blk_alloc ?_ _)); refine blk_put (cs := #[.int .i64 0, .int .i64 0]) ?_ 1 _ rfl; (with_reducible repeat (first | refine blk_drewN ?_ _ | refine blk_drew ?_ | refine blk_alloc ?_ _)); refine blk_put (cs := #[.int .i64 0, .int .i64 0]) ?_ 0 _ rfl; (with_reducible repeat (first | refine blk_drewN ?_ _ | refine blk_drew ?_ | refine blk_alloc ?_ _)); exact BK806.out) Try.underlying24 rfl (by kernel_rfl) (.tmp .nil)))) rfl ?_
    exact ⟨_, by first | rfl | (simp [errW_none, errW_some] <;> rfl) | (simp [*, errW_none, errW_some] <;> rfl), by first | exact Kd.S_nil _ _ _ _ _ | exact Kd.N_nil _ _ _ _ _ | exact Kd.V_nil _ _ _ _ _ | exact Kd.Q_nil _ _ _ _ _ | exact Kd.R_nil _ _ _ _ _, bs HB (by simp [ag, GE806.out])⟩
   ·rw [if_neg c9] at H
    have c9b0 : decide ((l0.length : Int) ≤ a1) = false := decide_eq_false c9
    clear c9
    obtain ⟨y808, hy808⟩ : ∃ y_ : List Int, y_ = (([0, 1, 3, 7, 15] : List Int)) := ⟨_, rfl⟩
    replace H : (selvedgeref18_File.l0 k l0 a1 y808 1) = some (r1, r2, r3, r4) := by first | (rw [hy808]; with_reducible exact H) | (have H2_ := (Option.bind_some _ _).symm.trans H; rw [hy808]; with_reducible exact H2_) | (have H2_ := (Option.bind_some _ _).symm.trans H; with_reducible exact H2_) | with_reducible exact H | (rw [hy808]; exact H) | exact H
    have Ny808 := Aside0.mk hy808
    clear hy808
    have H' := Aside0.mk H
    clear H
    go_enter Try.func41, Try.ntmps41
    go_wp2_with (first | ((with_reducible refine gate_dst (N := 5) rfl ?_); (try (refine gate_guard (by rfl) ?_; dsimp only)); refine box_event rfl (N := 5) rfl (cs := #[.int .i64 0, .int .i64 0]) (t := 24) (by first | (go_simp; done) | (go_simp; rfl)) ?_; intro gb806 hg w13 hbox hb; have BK806 := Aside0.mk (hbox); have GW806 := gs HB hg; have GE806 := gs HB hg; replace HB := Aside0.mk (below_step (bl HB) hb); clear hb hbox hg) | ((with_reducible refine gate_callee (f := 20) rfl ?_); refine goesL_ (some 13) rfl rfl Try.func20 (by kernel_rfl) rfl #[.slice A0 l0.length c0] rfl (by simp only [List.map_toArray, List.map_cons, List.map_nil]; first | done | rfl) ?_; (with_reducible refine (selvedgeref18_Whole.calls k _ _ l0 true _ ?side1 ?side2 A3.out).mono ?_); (case side1 => exact ck (Kd.C_below HR0.out HB.out)); (case side2 => exact HC0.out); rintro e w14 ⟨rfl, hb⟩; refine ⟨_, rfl, ?_⟩; replace BK806 := Aside0.mk (bb BK806 hb); replace HB := Aside0.mk (below_step (bs HB (by simp [ag, GE806.out])) hb); (try clear hb); (try clear hb2); (try clear hk); (try clear hi)) | ((with_reducible refine gate_dst (N := 26) rfl ?_); (try (refine gate_guard (by rfl) ?_; dsimp only)); refine Kd.R_lit (Kd.int .i64) _ 3 ?hg (N := 26) ?hd (xs := ([0, 1, 3, 7, 15] : List Int)) (inner := [.int .i64 0, .int .i64 1, .int .i64 3, .int .i64 7, .int .i64 15]) (ok := fun _ => True) (okp := fun _ => True) ?hr ?hp (fun _ hk => hk) trivial (Below.refl _ _) (Nat.le_refl _) (by simp) ?_; (case hd => rfl); (case hg => rfl); (case hr => first | (go_simp; done) | (go_simp; rfl)); (case hp => exact (Reps.one (show Kd.M (Kd.int .i64) _ _ _ 0 [.int .i64 0] from rfl) (Reps.one (show Kd.M (Kd.int .i64) _ _ _ 1 [.int .i64 1] from rfl) (Reps.one (show Kd.M (Kd.int .i64) _ _ _ 3 [.int .i64 3] from rfl) (Reps.one (show Kd.M (Kd.int .i64) _ _ _ 7 [.int .i64 7] from rfl) (Reps.one (show Kd.M (Kd.int .i64) _ _ _ 15 [.int .i64 15] from rfl) (Reps.none _ _))))))); intro v809 w15 ho16 hb hg_ hnew_; clear hg_ hnew_; (first | rw [← Ny808.out] at ho16 | (simp only [Int.reduceToNat] at ho16; rw [← Ny808.out] at ho16)); have HO810 := Aside0.mk (Kd.R_lower ho16 (below_size (bs HB (by simp [ag, GE806.out])))); replace BK806 := Aside0.mk (bb BK806 hb); replace HB := Aside0.mk (below_step (bs HB (by simp [ag, GE806.out])) hb); clear hb ho16))
    go_loopg [7, 8] k (fun kq v7 v8 w' => ∃ (x7_1 : List Int) (x8_1 : Int), v8 = .int .i64 x8_1 ∧ Aside0 (selvedgeref18_File.l0 kq l0 a1 x7_1 x8_1 = some (r1, r2, r3, r4)) ∧ Aside0 (kq ≤ k) ∧ Aside0 (Kd.R (Kd.int .i64) 3 w' w.heap.size (fun _ => True) v7 x7_1) ∧ Aside0 (w'.heap[gb806]? = some (.cells #[.int .i64 0, .int .i64 0] 24 (0, 0))) ∧ Aside0 (Below w.heap.size w w'))
    case atStart => exact ⟨(y808), (1), (by first | rfl | (simp; done) | (simp [*]; done)), H', ⟨Nat.le_refl _⟩, ⟨rk HO810⟩, ⟨bk BK806⟩, ⟨bs HB (by simp [ag, GE806.out])⟩⟩
    case round =>
     clear H'
     try clear c2
     try clear p2
     try clear c4
     try clear c5
     try clear c5b0
     try clear c9
     try clear c9b0
     try clear hcz12_0
     try clear hcz12_1
     try clear hcz8_0
     try clear hcz8_1
     try clear hfz12_0
     try clear hfz12_1
     try clear hfz8_0
     try clear hfz8_1
     obtain ⟨x7_1, x8_1, rfl, HA, HK1, HO_7, BK806, HB⟩ := hrel
     cases gk with
     | zero => exact absurd HA.out (by simp [selvedgeref18_File.l0])
     | succ k1 =>
      have H := HA.out
      clear HA
      simp only [selvedgeref18_File.l0] at H
      by_cases c17 : x8_1 < (l0.length : Int)
      ·rw [if_pos c17] at H
       have c17b0 : decide (x8_1 < (l0.length : Int)) = true := decide_eq_true c17
       clear c17
       by_cases c18 : x7_1.length < 17592186044416
       ·rw [if_pos c18] at H
        have LMc18 := Aside0.mk c18
        clear c18
        obtain ⟨y811, hy811⟩ : ∃ y_ : List Int, y_ = (x7_1 ++ [x8_1]) := ⟨_, rfl⟩
        replace H : (selvedgeref18_File.l0 k1 l0 a1 y811 (wrap64 (x8_1 + 1))) = some (r1, r2, r3, r4) := by first | (rw [hy811]; with_reducible exact H) | (have H2_ := (Option.bind_some _ _).symm.trans H; rw [hy811]; with_reducible exact H2_) | (have H2_ := (Option.bind_some _ _).symm.trans H; with_reducible exact H2_) | with_reducible exact H | (rw [hy811]; exact H) | exact H
        have Ny811 := Aside0.mk hy811
        clear hy811
        have H' := Aside0.mk H
        clear H
        go_wp2_with (first | ((with_reducible refine gate_builtin (b := .append) (xs := #[.tmp 33, .tmp 35]) rfl ?_); (try (refine gate_guard (by rfl) ?_; dsimp only)); at_builtin; refine Kd.R_append (Kd.int .i64) (w0 := w) w.heap.size rfl (.tmp 33) (.tmp 35) 40 3 (.int .i64 0) 8 rfl Try.underlying40 info3 rfl (by decide) (by omega) u7 x7_1 x8_1 [.int .i64 x8_1] (fun _ => True) (fun _ => False) rfl rfl ?aP (fun _ hk => hk.elim) ?aF ?aO ?aB ?aS ?aL ?_; (case aP => exact rfl); (case aB => exact (bs HB (by simp [ag, GE806.out]))); (case aF => exact (fun _ _ => trivial)); (case aO => exact (rk HO_7)); (case aS => exact (below_size (bs HB (by simp [ag, GE806.out])))); (case aL => have := LMc18.out; omega); intro v812 w19 ho hb hg hat; rw [← Ny811.out] at ho; replace BK806 := Aside0.mk (blk_grown (g := gb806) (o := .cells #[.int .i64 0, .int .i64 0] 24 (0, 0)) (bk BK806) hg (Kd.R_ne HO_7.out BK806.out (by decide))); replace HB := Aside0.mk (hb); have HO813 := Aside0.mk (ho); clear HO_7; clear ho hb hg hat))
        go_roundg k1
        case measure => have := HK1.out; omega
        case rel => exact ⟨(y811), (wrap64 (x8_1 + 1)), (by first | rfl | (simp; done) | (simp [*]; done)), H', ⟨by have := HK1.out; omega⟩, ⟨rk HO813⟩, ⟨bk BK806⟩, ⟨bs HB (by simp [ag, GE806.out])⟩⟩
       ·rw [if_neg c18] at H
        exact absurd H (by simp)
      ·rw [if_neg c17] at H
       have c17b0 : decide (x8_1 < (l0.length : Int)) = false := decide_eq_false c17
       clear c17
       have H' := Aside0.mk H
       clear H
       go_wp2
       go_loopg [9] k1 (fun kq v9 w' => ∃ (x9_2 : Int) (x807000_2 : Int) (x807001_2 : Int), v9 = .int .i64 x9_2 ∧ Aside0 (selvedgeref18_File.l1 kq l0 a1 x7_1 x9_2 = some (r1, r2, r3, r4)) ∧ Aside0 (kq ≤ k1) ∧ Aside0 (Kd.R (Kd.int .i64) 3 w' w.heap.size (fun _ => True) u7 x7_1) ∧ Aside0 (w'.heap[gb806]? = some (.cells #[.int .i64 x807000_2, .int .i64 x807001_2] 24 (0, 0))) ∧ Aside0 (Below w.heap.size w w'))
       case atStart => exact ⟨(0), (0), (0), (by first | rfl | (simp; done) | (simp [*]; done)), H', ⟨Nat.le_refl _⟩, ⟨rk HO_7⟩, ⟨bk BK806⟩, ⟨bs HB (by simp [ag, GE806.out])⟩⟩
       case round =>
        clear H'
        try clear c1
        try clear c2
        try clear p2
        try clear c4
        try clear c5
        try clear c5b0
        try clear p6
        try clear c9
        try clear c9b0
        try clear c17
        try clear c17b0
        try clear c18
        try clear hcz12_0
        try clear hcz12_1
        try clear hcz8_0
        try clear hcz8_1
        try clear hfz12_0
        try clear hfz12_1
        try clear hfz8_0
        try clear hfz8_1
        try clear p2
        obtain ⟨x9_2, x807000_2, x807001_2, rfl, HA, HK2, HO_7, BK806, HB⟩ := hrel
        cases gk with
        | zero => exact absurd HA.out (by simp [selvedgeref18_File.l1])
        | succ k2 =>
         have H := HA.out
         clear HA
         simp only [selvedgeref18_File.l1] at H
         by_cases c20 : x9_2 < (x7_1.length : Int)
         ·rw [if_pos c20] at H
          have c20b0 : decide (x9_2 < (x7_1.length : Int)) = true := decide_eq_true c20
          clear c20
          by_cases c21 : 0 ≤ x9_2
          ·rw [if_pos c21] at H
           have c21b0 : decide (0 ≤ x9_2) = true := decide_eq_true c21
           clear c21
           by_cases c22 : (l0.length : Int) = 0
           ·rw [if_pos c22] at H
            exact absurd H (by simp)
           ·rw [if_neg c22] at H
            have c22b0 : ((l0.length : Int) == 0) = false := beq_eq_false_iff_ne.mpr c22
            have c22b1 : ((l0.length : Int) != 0) = true := bne_iff_ne.mpr c22
            have c22b2 : ¬ (l0 = []) := fun h_ => c22 (by rw [h_]; rfl)
            by_cases c23 : (rd x7_1 x9_2) ≤ (l0.length : Int)
            ·rw [if_pos c23] at H
             have c23b0 : decide ((rd x7_1 x9_2) ≤ (l0.length : Int)) = true := decide_eq_true c23
             clear c23
             obtain ⟨ji24, hji24⟩ : ∃ j_ : Int, (Int.tmod (wrap64 (a1 + (rd x7_1 x9_2))) (l0.length : Int)) = j_ := ⟨_, rfl⟩
             replace H : (if 0 ≤ (ji24) then (if (ji24) < (l0.length : Int) then (if ((rd_T42 l0 (ji24)).f3) > 0 then ((selvedgeref18_first.f l0 (ji24)).bind fun bt817 => (some (bt817.1, bt817.2.1, bt817.2.2.1, bt817.2.2.2))) else (selvedgeref18_File.l1 k2 l0 a1 x7_1 (wrap64 (x9_2 + 1)))) else (none)) else (none)) = some (r1, r2, r3, r4) := by first | (rw [hji24] at H; exact H) | (simp only [hji24] at H ⊢; exact H)
             by_cases c25 : 0 ≤ (ji24)
             ·rw [if_pos c25] at H
              have c25b0 : decide (0 ≤ (ji24)) = true := decide_eq_true c25
              clear c25
              by_cases c26 : (ji24) < (l0.length : Int)
              ·rw [if_pos c26] at H
               have c26b0 : decide ((ji24) < (l0.length : Int)) = true := decide_eq_true c26
               clear c26
               by_cases c27 : ((rd_T42 l0 (ji24)).f3) > 0
               ·rw [if_pos c27] at H
                have c27b0 : decide (0 < ((rd_T42 l0 (ji24)).f3)) = true := decide_eq_true c27
                clear c27
                replace H := Option.bind_eq_some_iff.mp H
                obtain ⟨⟨t817, t820, t821, t822⟩, A280, H⟩ := H
                try dsimp -implicitDefEqProofs -simprocs only at H
                have A28 := Aside0.mk A280
                clear A280
                simp only [Option.some.injEq, Prod.mk.injEq] at H
                obtain ⟨rfl, rfl, rfl, rfl⟩ := H
                obtain ⟨Ao29, co29, eo29⟩ := Kd.R_slice HO_7.out
                subst eo29
                have p814 : 0 ≤ (x9_2 : Int) := of_decide_eq_true (by assumption)
                have q814 : x9_2 < (x7_1.length : Int) := of_decide_eq_true (by assumption)
                obtain ⟨ad814, e814, hx814_0⟩ := Kd.at_int (Kd.R_reads' HO_7.out).2.2 x9_2 p814 q814
                cases e814
                replace p814 := eq_true p814
                replace q814 := eq_true q814
                have p815 : 0 ≤ (x9_2 : Int) := of_decide_eq_true (by assumption)
                have q815 : x9_2 < (x7_1.length : Int) := of_decide_eq_true (by assumption)
                obtain ⟨ad815, e815, hx815_0⟩ := Kd.at_int (Kd.R_reads' HO_7.out).2.2 x9_2 p815 q815
                obtain rfl : ad814 = ad815 := (by injection e815)
                replace p815 := eq_true p815
                replace q815 := eq_true q815
                have p816 : 0 ≤ ((ji24) : Int) := of_decide_eq_true (by assumption)
                have q816 : (ji24) < (l0.length : Int) := of_decide_eq_true (by assumption)
                obtain ⟨ad816, A816_5, c816_5, A816_6, c816_6, e816, hx816_0, hx816_1, hx816_2, hx816_3, hx816_4, hx816_5, hx816_6, hl816_5, hi816_5, hl816_6, hi816_6⟩ := at_T42 HR0.out (ji24) p816 q816
                cases e816
                obtain ⟨hx816_0, hx816_1, hx816_2, hx816_3, hx816_4, hx816_5, hx816_6⟩ := cb7 HB.out hx816_0 hx816_1 hx816_2 hx816_3 hx816_4 hx816_5 hx816_6
                have HR816_5 := Aside0.mk hi816_5
                have HC816_5 := Aside0.mk hl816_5
                clear hi816_5 hl816_5
                have HR816_6 := Aside0.mk hi816_6
                have HC816_6 := Aside0.mk hl816_6
                clear hi816_6 hl816_6
                replace p816 := eq_true p816
                replace q816 := eq_true q816
                go_wp2_with (first | ((with_reducible refine gate_callee (f := 71) rfl ?_); refine goesL_ (some 69) rfl rfl Try.func71 (by kernel_rfl) rfl #[.slice (some ad816) l0.length c0, .int .i64 ji24] rfl (by (try simp only [List.map_toArray, List.map_cons, List.map_nil]); first | done | (simp only [hji24]; rfl) | rfl | (simp only [List.length_drop, List.length_take]; rfl)) ?_; (with_reducible refine (selvedgeref18_first.calls _ _ l0 ji24 t817 t820 t821 t822 _ ?side1 ?side2 A28.out).mono ?_); (case side1 => exact ck (Kd.C_below HR0.out HB.out)); (case side2 => exact HC0.out); rintro e w30 ⟨v818, rfl, ho0, hb⟩; refine ⟨_, rfl, ?_⟩; have hone_v818 := Kd.S_one ho0; have HO819 := Aside0.mk (Kd.S_lower (Kd.S_new' ho0 (Kd.R_lt (rk HO_7))) (below_size (bs HB (by simp [ag, GE806.out])))); replace HO_7 := Aside0.mk (Kd.R_below (rk HO_7) hb); replace BK806 := Aside0.mk (bb BK806 hb); replace HB := Aside0.mk (below_step (bs HB (by simp [ag, GE806.out])) hb); clear ho0 hb; obtain ⟨hcz31_0, hcz31_1, hfz31_0, hfz31_1⟩ := cf2 BK806))
                refine bodyPost_ret (results_list (rs := [.tmp 4, .cell 5 24, .tmp 6]) rfl (by simp) (.tmp (.cell gb806 24 #[.int .i64 t820, .int .i64 t821] (0, 0) _ rfl (by (with_reducible repeat (first | refine blk_drewN ?_ _ | refine blk_drew ?_ | refine blk_alloc ?_ _)); refine blk_put (cs := #[.int .i64 t820, .int .i64 x807001_2]) ?_ 1 _ rfl; (with_reducible repeat (first | refine blk_drewN ?_ _ | refine blk_drew ?_ | refine blk_alloc ?_ _)); refine blk_put (cs := #[.int .i64 x807000_2, .int .i64 x807001_2]) ?_ 0 _ rfl; (with_reducible repeat (first | refine blk_drewN ?_ _ | refine blk_drew ?_ | refine blk_alloc ?_ _)); exact BK806.out) Try.underlying24 rfl (by kernel_rfl) (.tmp .nil)))) rfl ?_
                exact ⟨_, by first | rfl | (simp [errW_none, errW_some] <;> rfl) | (simp only [← hji24]; first | rfl | (simp [errW_none, errW_some] <;> rfl)) | (simp [*, errW_none, errW_some] <;> rfl), by (with_reducible repeat (first | apply Kd.S_alloc | apply Kd.S_drewN | apply Kd.S_drew)); exact Kd.S_mono (Kd.S_far (p := ⟨gb806, 1, none⟩) (Kd.S_far (p := ⟨gb806, 0, none⟩) (Kd.S_types HO819.out BK806.out (by decide)) (fun _ hk => hk.2) (.int .i64 t820)) (fun _ hk => hk.2) (.int .i64 t821)) (fun _ hk => trivial), bs HB (by simp [ag, GE806.out])⟩
               ·rw [if_neg c27] at H
                have c27b0 : decide (0 < ((rd_T42 l0 (ji24)).f3)) = false := decide_eq_false c27
                clear c27
                have H' := Aside0.mk H
                clear H
                obtain ⟨Ao32, co32, eo32⟩ := Kd.R_slice HO_7.out
                subst eo32
                have p814 : 0 ≤ (x9_2 : Int) := of_decide_eq_true (by assumption)
                have q814 : x9_2 < (x7_1.length : Int) := of_decide_eq_true (by assumption)
                obtain ⟨ad814, e814, hx814_0⟩ := Kd.at_int (Kd.R_reads' HO_7.out).2.2 x9_2 p814 q814
                cases e814
                replace p814 := eq_true p814
                replace q814 := eq_true q814
                have p815 : 0 ≤ (x9_2 : Int) := of_decide_eq_true (by assumption)
                have q815 : x9_2 < (x7_1.length : Int) := of_decide_eq_true (by assumption)
                obtain ⟨ad815, e815, hx815_0⟩ := Kd.at_int (Kd.R_reads' HO_7.out).2.2 x9_2 p815 q815
                obtain rfl : ad814 = ad815 := (by injection e815)
                replace p815 := eq_true p815
                replace q815 := eq_true q815
                have p816 : 0 ≤ ((ji24) : Int) := of_decide_eq_true (by assumption)
                have q816 : (ji24) < (l0.length : Int) := of_decide_eq_true (by assumption)
                obtain ⟨ad816, A816_5, c816_5, A816_6, c816_6, e816, hx816_0, hx816_1, hx816_2, hx816_3, hx816_4, hx816_5, hx816_6, hl816_5, hi816_5, hl816_6, hi816_6⟩ := at_T42 HR0.out (ji24) p816 q816
                cases e816
                obtain ⟨hx816_0, hx816_1, hx816_2, hx816_3, hx816_4, hx816_5, hx816_6⟩ := cb7 HB.out hx816_0 hx816_1 hx816_2 hx816_3 hx816_4 hx816_5 hx816_6
                have HR816_5 := Aside0.mk hi816_5
                have HC816_5 := Aside0.mk hl816_5
                clear hi816_5 hl816_5
                have HR816_6 := Aside0.mk hi816_6
                have HC816_6 := Aside0.mk hl816_6
                clear hi816_6 hl816_6
                replace p816 := eq_true p816
                replace q816 := eq_true q816
                go_wp2
                go_roundg k2
                case measure => have := HK1.out; have := HK2.out; omega
                case rel => exact ⟨(wrap64 (x9_2 + 1)), (x807000_2), (x807001_2), (by first | rfl | (simp; done) | (simp [*]; done)), H', ⟨by have := HK1.out; have := HK2.out; omega⟩, ⟨rk HO_7⟩, ⟨bk BK806⟩, ⟨bs HB (by simp [ag, GE806.out])⟩⟩
              ·rw [if_neg c26] at H
               exact absurd H (by simp)
             ·rw [if_neg c25] at H
              exact absurd H (by simp)
            ·rw [if_neg c23] at H
             have c23b0 : decide ((rd x7_1 x9_2) ≤ (l0.length : Int)) = false := decide_eq_false c23
             clear c23
             have H' := Aside0.mk H
             clear H
             obtain ⟨Ao33, co33, eo33⟩ := Kd.R_slice HO_7.out
             subst eo33
             have p814 : 0 ≤ (x9_2 : Int) := of_decide_eq_true (by assumption)
             have q814 : x9_2 < (x7_1.length : Int) := of_decide_eq_true (by assumption)
             obtain ⟨ad814, e814, hx814_0⟩ := Kd.at_int (Kd.R_reads' HO_7.out).2.2 x9_2 p814 q814
             cases e814
             replace p814 := eq_true p814
             replace q814 := eq_true q814
             have p815 : 0 ≤ (x9_2 : Int) := of_decide_eq_true (by assumption)
             have q815 : x9_2 < (x7_1.length : Int) := of_decide_eq_true (by assumption)
             obtain ⟨ad815, e815, hx815_0⟩ := Kd.at_int (Kd.R_reads' HO_7.out).2.2 x9_2 p815 q815
             obtain rfl : ad814 = ad815 := (by injection e815)
             replace p815 := eq_true p815
             replace q815 := eq_true q815
             go_wp2
             go_roundg k2
             case measure => have := HK1.out; have := HK2.out; omega
             case rel => exact ⟨(wrap64 (x9_2 + 1)), (x807000_2), (x807001_2), (by first | rfl | (simp; done) | (simp [*]; done)), H', ⟨by have := HK1.out; have := HK2.out; omega⟩, ⟨rk HO_7⟩, ⟨bk BK806⟩, ⟨bs HB (by simp [ag, GE806.out])⟩⟩
          ·rw [if_neg c21] at H
           exact absurd H (by simp)
         ·rw [if_neg c20] at H
          have c20b0 : decide (x9_2 < (x7_1.length : Int)) = false := decide_eq_false c20
          clear c20
          simp only [Option.some.injEq, Prod.mk.injEq] at H
          obtain ⟨rfl, rfl, rfl, rfl⟩ := H
          obtain ⟨Ao34, co34, eo34⟩ := Kd.R_slice HO_7.out
          subst eo34
          obtain ⟨hcz35_0, hcz35_1, hfz35_0, hfz35_1⟩ := cf2 BK806
          go_wp2
          refine bodyPost_ret (results_list (rs := [.tmp 4, .cell 5 24, .tmp 6]) rfl (by simp) (.tmp (.cell gb806 24 #[.int .i64 0, .int .i64 0] (0, 0) _ rfl (by (with_reducible repeat (first | refine blk_drewN ?_ _ | refine blk_drew ?_ | refine blk_alloc ?_ _)); refine blk_put (cs := #[.int .i64 0, .int .i64 x807001_2]) ?_ 1 _ rfl; (with_reducible repeat (first | refine blk_drewN ?_ _ | refine blk_drew ?_ | refine blk_alloc ?_ _)); refine blk_put (cs := #[.int .i64 x807000_2, .int .i64 x807001_2]) ?_ 0 _ rfl; (with_reducible repeat (first | refine blk_drewN ?_ _ | refine blk_drew ?_ | refine blk_alloc ?_ _)); exact BK806.out) Try.underlying24 rfl (by kernel_rfl) (.tmp .nil)))) rfl ?_
          exact ⟨_, by first | rfl | (simp [errW_none, errW_some] <;> rfl) | (simp [*, errW_none, errW_some] <;> rfl), by first | exact Kd.S_nil _ _ _ _ _ | exact Kd.N_nil _ _ _ _ _ | exact Kd.V_nil _ _ _ _ _ | exact Kd.Q_nil _ _ _ _ _ | exact Kd.R_nil _ _ _ _ _, bs HB (by simp [ag, GE806.out])⟩
 ·replace c4 := Bool.eq_false_iff.mpr c4
  subst c4
  have H1 : (some (([] : List (S42)), 0, 0, 3)) = some (r1, r2, r3, r4) := by rw [if_neg (show ¬ (false = true) by decide)] at H; exact H
  clear H
  have H := H1
  clear H1
  simp only [Option.some.injEq, Prod.mk.injEq] at H
  obtain ⟨rfl, rfl, rfl, rfl⟩ := H
  go_enter Try.func41, Try.ntmps41
  go_wp2_with (first | ((with_reducible refine gate_dst (N := 5) rfl ?_); (try (refine gate_guard (by rfl) ?_; dsimp only)); refine box_event rfl (N := 5) rfl (cs := #[.int .i64 0, .int .i64 0]) (t := 24) (by first | (go_simp; done) | (go_simp; rfl)) ?_; intro gb806 hg w36 hbox hb; have BK806 := Aside0.mk (hbox); have GW806 := gs HB hg; have GE806 := gs HB hg; replace HB := Aside0.mk (below_step (bl HB) hb); clear hb hbox hg) | ((with_reducible refine gate_callee (f := 20) rfl ?_); refine goesL_ (some 13) rfl rfl Try.func20 (by kernel_rfl) rfl #[.slice A0 l0.length c0] rfl (by simp only [List.map_toArray, List.map_cons, List.map_nil]; first | done | rfl) ?_; (with_reducible refine (selvedgeref18_Whole.calls k _ _ l0 false _ ?side1 ?side2 A3.out).mono ?_); (case side1 => exact ck (Kd.C_below HR0.out HB.out)); (case side2 => exact HC0.out); rintro e w37 ⟨rfl, hb⟩; refine ⟨_, rfl, ?_⟩; replace BK806 := Aside0.mk (bb BK806 hb); replace HB := Aside0.mk (below_step (bs HB (by simp [ag, GE806.out])) hb); (try clear hb); (try clear hb2); (try clear hk); (try clear hi); obtain ⟨hcz38_0, hcz38_1, hfz38_0, hfz38_1⟩ := cf2 BK806))
  refine bodyPost_ret (results_list (rs := [.tmp 4, .cell 5 24, .tmp 6]) rfl (by simp) (.tmp (.cell gb806 24 #[.int .i64 0, .int .i64 0] (0, 0) _ rfl (by (with_reducible repeat (first | refine blk_drewN ?_ _ | refine blk_drew ?_ | refine blk_alloc ?_ _)); refine blk_put (cs := #[.int .i64 0, .int .i64 0]) ?_ 1 _ rfl; (with_reducible repeat (first | refine blk_drewN ?_ _ | refine blk_drew ?_ | refine blk_alloc ?_ _)); refine blk_put (cs := #[.int .i64 0, .int .i64 0]) ?_ 0 _ rfl; (with_reducible repeat (first | refine blk_drewN ?_ _ | refine blk_drew ?_ | refine blk_alloc ?_ _)); exact BK806.out) Try.underlying24 rfl (by kernel_rfl) (.tmp .nil)))) rfl ?_
  exact ⟨_, by first | rfl | (simp [errW_none, errW_some] <;> rfl) | (simp [*, errW_none, errW_some] <;> rfl), by first | exact Kd.S_nil _ _ _ _ _ | exact Kd.N_nil _ _ _ _ _ | exact Kd.V_nil _ _ _ _ _ | exact Kd.Q_nil _ _ _ _ _ | exact Kd.R_nil _ _ _ _ _, bs HB (by simp [ag, GE806.out])⟩

/-! ### selvedgeref18_Dir: function 42 -/
def selvedgeref18_Dir.l0 : Nat → List (S42) → Int → Int → Int → Option ((List (S42)) × Int × Int × Int)
 | 0, _, _, _, _ => none
 | k + 1, x0, x6, x7, x8 => if x8 < (x0.length : Int) then (if 0 ≤ x8 then (if ((rd_T42 x0 x8).f3) ≥ 1 then (if (x0.length : Int) = 0 then (none) else (if ((rd_T42 x0 x8).f3) ≥ (wrap64 (Int.tdiv x6 (x0.length : Int))) then (if x7 < 0 then (selvedgeref18_Dir.l0 k x0 x6 x8 (wrap64 (x8 + 1))) else (if 0 ≤ x7 then (if x7 < (x0.length : Int) then (if ((rd_T42 x0 x8).f2) > ((rd_T42 x0 x7).f2) then (selvedgeref18_Dir.l0 k x0 x6 x8 (wrap64 (x8 + 1))) else (selvedgeref18_Dir.l0 k x0 x6 x7 (wrap64 (x8 + 1)))) else (none)) else (none))) else (selvedgeref18_Dir.l0 k x0 x6 x7 (wrap64 (x8 + 1))))) else (selvedgeref18_Dir.l0 k x0 x6 x7 (wrap64 (x8 + 1)))) else (none)) else (if x7 < 0 then (some (([] : List (S42)), 0, 0, 4)) else ((selvedgeref18_first.f x0 x7).bind fun bt831 => (some (bt831.1, bt831.2.1, bt831.2.2.1, bt831.2.2.2))))
def selvedgeref18_Dir.f (k : Nat) (l0 : List (S42)) : Option ((List (S42)) × Int × Int × Int) := (selvedgeref18_Whole.f k l0).bind fun t824 => (if t824 = true then ((selvedgeref18_Free.f k l0).bind fun bt825 => (selvedgeref18_Dir.l0 k l0 bt825.2 (-1) 0)) else (some (([] : List (S42)), 0, 0, 3)))
set_option maxHeartbeats 8000000 in
set_option maxRecDepth 100000 in
theorem selvedgeref18_Dir.calls (k : Nat) (A0 : Option Addr) (c0 : Nat) (l0 : List (S42)) (r1 : List (S42)) (r2 : Int) (r3 : Int) (r4 : Int) (w : World) (hr0 : Kd.C k42 w A0 l0.length l0) (hc0 : l0.length ≤ c0) (h : selvedgeref18_Dir.f k l0 = some (r1, r2, r3, r4)) :
  Calls Try.prog 42 #[.slice A0 l0.length c0] w fun e w' => ∃ v0_ : Value, e = .returned (.tuple #[v0_, .agg #[.int .i64 r2, .int .i64 r3], .int .i64 r4]) ∧ Kd.S k42 42 w' w.heap.size (fun _ => True) v0_ r1 ∧ Below w.heap.size w w' := by
 have hu24 := Try.underlying24
 have HR0 := Aside0.mk hr0
 have HC0 := Aside0.mk hc0
 clear hr0 hc0
 have HB := Aside0.mk (Below.refl w.heap.size w)
 have H : ((selvedgeref18_Whole.f k l0).bind fun t824 => (if t824 = true then ((selvedgeref18_Free.f k l0).bind fun bt825 => (selvedgeref18_Dir.l0 k l0 bt825.2 (-1) 0)) else (some (([] : List (S42)), 0, 0, 3)))) = some (r1, r2, r3, r4) := h
 clear h
 replace H := Option.bind_eq_some_iff.mp H
 obtain ⟨t824, A20, H⟩ := H
 try dsimp -implicitDefEqProofs -simprocs only at H
 have A2 := Aside0.mk A20
 clear A20
 by_cases c3 : t824 = true
 ·subst c3
  have H1 : ((selvedgeref18_Free.f k l0).bind fun bt825 => (selvedgeref18_Dir.l0 k l0 bt825.2 (-1) 0)) = some (r1, r2, r3, r4) := by rw [if_pos rfl] at H; exact H
  clear H
  have H := H1
  clear H1
  replace H := Option.bind_eq_some_iff.mp H
  obtain ⟨⟨t825, t826⟩, A40, H⟩ := H
  try dsimp -implicitDefEqProofs -simprocs only at H
  have A4 := Aside0.mk A40
  clear A40
  have H' := Aside0.mk H
  clear H
  go_enter Try.func42, Try.ntmps42
  go_wp2_with (first | ((with_reducible refine gate_dst (N := 3) rfl ?_); (try (refine gate_guard (by rfl) ?_; dsimp only)); refine box_event rfl (N := 3) rfl (cs := #[.int .i64 0, .int .i64 0]) (t := 24) (by first | (go_simp; done) | (go_simp; rfl)) ?_; intro gb823 hg w5 hbox hb; have BK823 := Aside0.mk (hbox); have GW823 := gs HB hg; have GE823 := gs HB hg; replace HB := Aside0.mk (below_step (bl HB) hb); clear hb hbox hg) | (go_at_call 20; (with_reducible refine (selvedgeref18_Whole.calls k _ _ l0 true _ ?side1 ?side2 A2.out).mono ?_); (case side1 => exact ck (Kd.C_below HR0.out HB.out)); (case side2 => exact HC0.out); rintro e w6 ⟨rfl, hb⟩; replace BK823 := Aside0.mk (bb BK823 hb); replace HB := Aside0.mk (below_step (bs HB (by simp [ag, GE823.out])) hb); (try clear hb); (try clear hb2); (try clear hk); (try clear hi)) | (go_at_call 24; (with_reducible refine (selvedgeref18_Free.calls k _ _ l0 t825 t826 _ ?side1 ?side2 A4.out).mono ?_); (case side1 => exact ck (Kd.C_below HR0.out HB.out)); (case side2 => exact HC0.out); rintro e w7 ⟨rfl, hb⟩; replace BK823 := Aside0.mk (bb BK823 hb); replace HB := Aside0.mk (below_step (bs HB (by simp [ag, GE823.out])) hb); (try clear hb); (try clear hb2); (try clear hk); (try clear hi)))
  repeat (go_quiet (first | ((with_reducible refine gate_dst (N := 3) rfl ?_); (try (refine gate_guard (by rfl) ?_; dsimp only)); refine box_event rfl (N := 3) rfl (cs := #[.int .i64 0, .int .i64 0]) (t := 24) (by first | (go_simp; done) | (go_simp; rfl)) ?_; intro gb823 hg w5 hbox hb; have BK823 := Aside0.mk (hbox); have GW823 := gs HB hg; have GE823 := gs HB hg; replace HB := Aside0.mk (below_step (bl HB) hb); clear hb hbox hg) | (go_at_call 20; (with_reducible refine (selvedgeref18_Whole.calls k _ _ l0 true _ ?side1 ?side2 A2.out).mono ?_); (case side1 => exact ck (Kd.C_below HR0.out HB.out)); (case side2 => exact HC0.out); rintro e w6 ⟨rfl, hb⟩; replace BK823 := Aside0.mk (bb BK823 hb); replace HB := Aside0.mk (below_step (bs HB (by simp [ag, GE823.out])) hb); (try clear hb); (try clear hb2); (try clear hk); (try clear hi)) | (go_at_call 24; (with_reducible refine (selvedgeref18_Free.calls k _ _ l0 t825 t826 _ ?side1 ?side2 A4.out).mono ?_); (case side1 => exact ck (Kd.C_below HR0.out HB.out)); (case side2 => exact HC0.out); rintro e w7 ⟨rfl, hb⟩; replace BK823 := Aside0.mk (bb BK823 hb); replace HB := Aside0.mk (below_step (bs HB (by simp [ag, GE823.out])) hb); (try clear hb); (try clear hb2); (try clear hk); (try clear hi))); try go_wp2_with (first | ((with_reducible refine gate_dst (N := 3) rfl ?_); (try (refine gate_guard (by rfl) ?_; dsimp only)); refine box_event rfl (N := 3) rfl (cs := #[.int .i64 0, .int .i64 0]) (t := 24) (by first | (go_simp; done) | (go_simp; rfl)) ?_; intro gb823 hg w5 hbox hb; have BK823 := Aside0.mk (hbox); have GW823 := gs HB hg; have GE823 := gs HB hg; replace HB := Aside0.mk (below_step (bl HB) hb); clear hb hbox hg) | (go_at_call 20; (with_reducible refine (selvedgeref18_Whole.calls k _ _ l0 true _ ?side1 ?side2 A2.out).mono ?_); (case side1 => exact ck (Kd.C_below HR0.out HB.out)); (case side2 => exact HC0.out); rintro e w6 ⟨rfl, hb⟩; replace BK823 := Aside0.mk (bb BK823 hb); replace HB := Aside0.mk (below_step (bs HB (by simp [ag, GE823.out])) hb); (try clear hb); (try clear hb2); (try clear hk); (try clear hi)) | (go_at_call 24; (with_reducible refine (selvedgeref18_Free.calls k _ _ l0 t825 t826 _ ?side1 ?side2 A4.out).mono ?_); (case side1 => exact ck (Kd.C_below HR0.out HB.out)); (case side2 => exact HC0.out); rintro e w7 ⟨rfl, hb⟩; replace BK823 := Aside0.mk (bb BK823 hb); replace HB := Aside0.mk (below_step (bs HB (by simp [ag, GE823.out])) hb); (try clear hb); (try clear hb2); (try clear hk); (try clear hi))))
  go_loopg [7, 8] k (fun kq v7 v8 w' => ∃ (x7_1 : Int) (x8_1 : Int), v7 = .int .i64 x7_1 ∧ v8 = .int .i64 x8_1 ∧ Aside0 (selvedgeref18_Dir.l0 kq l0 t826 x7_1 x8_1 = some (r1, r2, r3, r4)) ∧ Aside0 (kq ≤ k) ∧ Aside0 (w'.heap[gb823]? = some (.cells #[.int .i64 0, .int .i64 0] 24 (0, 0))) ∧ Aside0 (Below w.heap.size w w'))
  case atStart => exact ⟨((-1)), (0), (by first | rfl | (simp; done) | (simp [*]; done)), (by first | rfl | (simp; done) | (simp [*]; done)), H', ⟨Nat.le_refl _⟩, ⟨bk BK823⟩, ⟨bs HB (by simp [ag, GE823.out])⟩⟩
  case round =>
   clear H'
   try clear p2
   try clear c3
   try clear c4
   obtain ⟨x7_1, x8_1, rfl, rfl, HA, HK1, BK823, HB⟩ := hrel
   cases gk with
   | zero => exact absurd HA.out (by simp [selvedgeref18_Dir.l0])
   | succ k1 =>
    have H := HA.out
    clear HA
    simp only [selvedgeref18_Dir.l0] at H
    by_cases c8 : x8_1 < (l0.length : Int)
    ·rw [if_pos c8] at H
     have c8b0 : decide (x8_1 < (l0.length : Int)) = true := decide_eq_true c8
     clear c8
     by_cases c9 : 0 ≤ x8_1
     ·rw [if_pos c9] at H
      have c9b0 : decide (0 ≤ x8_1) = true := decide_eq_true c9
      clear c9
      by_cases c10 : ((rd_T42 l0 x8_1).f3) ≥ 1
      ·rw [if_pos c10] at H
       have c10b0 : decide (1 ≤ ((rd_T42 l0 x8_1).f3)) = true := decide_eq_true c10
       clear c10
       by_cases c11 : (l0.length : Int) = 0
       ·rw [if_pos c11] at H
        exact absurd H (by simp)
       ·rw [if_neg c11] at H
        have c11b0 : ((l0.length : Int) == 0) = false := beq_eq_false_iff_ne.mpr c11
        have c11b1 : ((l0.length : Int) != 0) = true := bne_iff_ne.mpr c11
        have c11b2 : ¬ (l0 = []) := fun h_ => c11 (by rw [h_]; rfl)
        by_cases c12 : ((rd_T42 l0 x8_1).f3) ≥ (wrap64 (Int.tdiv t826 (l0.length : Int)))
        ·rw [if_pos c12] at H
         have c12b0 : decide ((wrap64 (Int.tdiv t826 (l0.length : Int))) ≤ ((rd_T42 l0 x8_1).f3)) = true := decide_eq_true c12
         clear c12
         by_cases c13 : x7_1 < 0
         ·rw [if_pos c13] at H
          have c13b0 : decide (x7_1 < 0) = true := decide_eq_true c13
          clear c13
          have H' := Aside0.mk H
          clear H
          have p827 : 0 ≤ (x8_1 : Int) := of_decide_eq_true (by assumption)
          have q827 : x8_1 < (l0.length : Int) := of_decide_eq_true (by assumption)
          obtain ⟨ad827, A827_5, c827_5, A827_6, c827_6, e827, hx827_0, hx827_1, hx827_2, hx827_3, hx827_4, hx827_5, hx827_6, hl827_5, hi827_5, hl827_6, hi827_6⟩ := at_T42 HR0.out x8_1 p827 q827
          cases e827
          obtain ⟨hx827_0, hx827_1, hx827_2, hx827_3, hx827_4, hx827_5, hx827_6⟩ := cb7 HB.out hx827_0 hx827_1 hx827_2 hx827_3 hx827_4 hx827_5 hx827_6
          have HR827_5 := Aside0.mk hi827_5
          have HC827_5 := Aside0.mk hl827_5
          clear hi827_5 hl827_5
          have HR827_6 := Aside0.mk hi827_6
          have HC827_6 := Aside0.mk hl827_6
          clear hi827_6 hl827_6
          replace p827 := eq_true p827
          replace q827 := eq_true q827
          have p828 : 0 ≤ (x8_1 : Int) := of_decide_eq_true (by assumption)
          have q828 : x8_1 < (l0.length : Int) := of_decide_eq_true (by assumption)
          obtain ⟨ad828, A828_5, c828_5, A828_6, c828_6, e828, hx828_0, hx828_1, hx828_2, hx828_3, hx828_4, hx828_5, hx828_6, hl828_5, hi828_5, hl828_6, hi828_6⟩ := at_T42 HR0.out x8_1 p828 q828
          obtain rfl : ad827 = ad828 := (by injection e828)
          obtain ⟨hx828_0, hx828_1, hx828_2, hx828_3, hx828_4, hx828_5, hx828_6⟩ := cb7 HB.out hx828_0 hx828_1 hx828_2 hx828_3 hx828_4 hx828_5 hx828_6
          have HR828_5 := Aside0.mk hi828_5
          have HC828_5 := Aside0.mk hl828_5
          clear hi828_5 hl828_5
          have HR828_6 := Aside0.mk hi828_6
          have HC828_6 := Aside0.mk hl828_6
          clear hi828_6 hl828_6
          replace p828 := eq_true p828
          replace q828 := eq_true q828
          have ea_ := Option.some.inj (hx827_5.symm.trans hx828_5)
          injection ea_ with ea_ en_ ec_
          subst ea_
          subst ec_
          clear en_
          have ea_ := Option.some.inj (hx827_6.symm.trans hx828_6)
          injection ea_ with ea_ en_ ec_
          subst ea_
          subst ec_
          clear en_
          go_wp2
          repeat (go_quiet (fail); try go_wp2)
          go_roundg k1
          case measure => have := HK1.out; omega
          case rel => exact ⟨(x8_1), (wrap64 (x8_1 + 1)), (by first | rfl | (simp; done) | (simp [*]; done)), (by first | rfl | (simp; done) | (simp [*]; done)), H', ⟨by have := HK1.out; omega⟩, ⟨bk BK823⟩, ⟨bs HB (by simp [ag, GE823.out])⟩⟩
         ·rw [if_neg c13] at H
          have c13b0 : decide (x7_1 < 0) = false := decide_eq_false c13
          clear c13
          by_cases c14 : 0 ≤ x7_1
          ·rw [if_pos c14] at H
           have c14b0 : decide (0 ≤ x7_1) = true := decide_eq_true c14
           clear c14
           by_cases c15 : x7_1 < (l0.length : Int)
           ·rw [if_pos c15] at H
            have c15b0 : decide (x7_1 < (l0.length : Int)) = true := decide_eq_true c15
            clear c15
            by_cases c16 : ((rd_T42 l0 x8_1).f2) > ((rd_T42 l0 x7_1).f2)
            ·rw [if_pos c16] at H
             have c16b0 : decide (((rd_T42 l0 x7_1).f2) < ((rd_T42 l0 x8_1).f2)) = true := decide_eq_true c16
             clear c16
             have H' := Aside0.mk H
             clear H
             have p827 : 0 ≤ (x8_1 : Int) := of_decide_eq_true (by assumption)
             have q827 : x8_1 < (l0.length : Int) := of_decide_eq_true (by assumption)
             obtain ⟨ad827, A827_5, c827_5, A827_6, c827_6, e827, hx827_0, hx827_1, hx827_2, hx827_3, hx827_4, hx827_5, hx827_6, hl827_5, hi827_5, hl827_6, hi827_6⟩ := at_T42 HR0.out x8_1 p827 q827
             cases e827
             obtain ⟨hx827_0, hx827_1, hx827_2, hx827_3, hx827_4, hx827_5, hx827_6⟩ := cb7 HB.out hx827_0 hx827_1 hx827_2 hx827_3 hx827_4 hx827_5 hx827_6
             have HR827_5 := Aside0.mk hi827_5
             have HC827_5 := Aside0.mk hl827_5
             clear hi827_5 hl827_5
             have HR827_6 := Aside0.mk hi827_6
             have HC827_6 := Aside0.mk hl827_6
             clear hi827_6 hl827_6
             replace p827 := eq_true p827
             replace q827 := eq_true q827
             have p828 : 0 ≤ (x8_1 : Int) := of_decide_eq_true (by assumption)
             have q828 : x8_1 < (l0.length : Int) := of_decide_eq_true (by assumption)
             obtain ⟨ad828, A828_5, c828_5, A828_6, c828_6, e828, hx828_0, hx828_1, hx828_2, hx828_3, hx828_4, hx828_5, hx828_6, hl828_5, hi828_5, hl828_6, hi828_6⟩ := at_T42 HR0.out x8_1 p828 q828
             obtain rfl : ad827 = ad828 := (by injection e828)
             obtain ⟨hx828_0, hx828_1, hx828_2, hx828_3, hx828_4, hx828_5, hx828_6⟩ := cb7 HB.out hx828_0 hx828_1 hx828_2 hx828_3 hx828_4 hx828_5 hx828_6
             have HR828_5 := Aside0.mk hi828_5
             have HC828_5 := Aside0.mk hl828_5
             clear hi828_5 hl828_5
             have HR828_6 := Aside0.mk hi828_6
             have HC828_6 := Aside0.mk hl828_6
             clear hi828_6 hl828_6
             replace p828 := eq_true p828
             replace q828 := eq_true q828
             have ea_ := Option.some.inj (hx827_5.symm.trans hx828_5)
             injection ea_ with ea_ en_ ec_
             subst ea_
             subst ec_
             clear en_
             have ea_ := Option.some.inj (hx827_6.symm.trans hx828_6)
             injection ea_ with ea_ en_ ec_
             subst ea_
             subst ec_
             clear en_
             have p829 : 0 ≤ (x8_1 : Int) := of_decide_eq_true (by assumption)
             have q829 : x8_1 < (l0.length : Int) := of_decide_eq_true (by assumption)
             obtain ⟨ad829, A829_5, c829_5, A829_6, c829_6, e829, hx829_0, hx829_1, hx829_2, hx829_3, hx829_4, hx829_5, hx829_6, hl829_5, hi829_5, hl829_6, hi829_6⟩ := at_T42 HR0.out x8_1 p829 q829
             obtain rfl : ad827 = ad829 := (by injection e829)
             obtain ⟨hx829_0, hx829_1, hx829_2, hx829_3, hx829_4, hx829_5, hx829_6⟩ := cb7 HB.out hx829_0 hx829_1 hx829_2 hx829_3 hx829_4 hx829_5 hx829_6
             have HR829_5 := Aside0.mk hi829_5
             have HC829_5 := Aside0.mk hl829_5
             clear hi829_5 hl829_5
             have HR829_6 := Aside0.mk hi829_6
             have HC829_6 := Aside0.mk hl829_6
             clear hi829_6 hl829_6
             replace p829 := eq_true p829
             replace q829 := eq_true q829
             have ea_ := Option.some.inj (hx827_5.symm.trans hx829_5)
             injection ea_ with ea_ en_ ec_
             subst ea_
             subst ec_
             clear en_
             have ea_ := Option.some.inj (hx827_6.symm.trans hx829_6)
             injection ea_ with ea_ en_ ec_
             subst ea_
             subst ec_
             clear en_
             have p830 : 0 ≤ (x7_1 : Int) := of_decide_eq_true (by assumption)
             have q830 : x7_1 < (l0.length : Int) := of_decide_eq_true (by assumption)
             obtain ⟨ad830, A830_5, c830_5, A830_6, c830_6, e830, hx830_0, hx830_1, hx830_2, hx830_3, hx830_4, hx830_5, hx830_6, hl830_5, hi830_5, hl830_6, hi830_6⟩ := at_T42 HR0.out x7_1 p830 q830
             obtain rfl : ad827 = ad830 := (by injection e830)
             obtain ⟨hx830_0, hx830_1, hx830_2, hx830_3, hx830_4, hx830_5, hx830_6⟩ := cb7 HB.out hx830_0 hx830_1 hx830_2 hx830_3 hx830_4 hx830_5 hx830_6
             have HR830_5 := Aside0.mk hi830_5
             have HC830_5 := Aside0.mk hl830_5
             clear hi830_5 hl830_5
             have HR830_6 := Aside0.mk hi830_6
             have HC830_6 := Aside0.mk hl830_6
             clear hi830_6 hl830_6
             replace p830 := eq_true p830
             replace q830 := eq_true q830
             go_wp2
             repeat (go_quiet (fail); try go_wp2)
             go_roundg k1
             case measure => have := HK1.out; omega
             case rel => exact ⟨(x8_1), (wrap64 (x8_1 + 1)), (by first | rfl | (simp; done) | (simp [*]; done)), (by first | rfl | (simp; done) | (simp [*]; done)), H', ⟨by have := HK1.out; omega⟩, ⟨bk BK823⟩, ⟨bs HB (by simp [ag, GE823.out])⟩⟩
            ·rw [if_neg c16] at H
             have c16b0 : decide (((rd_T42 l0 x7_1).f2) < ((rd_T42 l0 x8_1).f2)) = false := decide_eq_false c16
             clear c16
             have H' := Aside0.mk H
             clear H
             have p827 : 0 ≤ (x8_1 : Int) := of_decide_eq_true (by assumption)
             have q827 : x8_1 < (l0.length : Int) := of_decide_eq_true (by assumption)
             obtain ⟨ad827, A827_5, c827_5, A827_6, c827_6, e827, hx827_0, hx827_1, hx827_2, hx827_3, hx827_4, hx827_5, hx827_6, hl827_5, hi827_5, hl827_6, hi827_6⟩ := at_T42 HR0.out x8_1 p827 q827
             cases e827
             obtain ⟨hx827_0, hx827_1, hx827_2, hx827_3, hx827_4, hx827_5, hx827_6⟩ := cb7 HB.out hx827_0 hx827_1 hx827_2 hx827_3 hx827_4 hx827_5 hx827_6
             have HR827_5 := Aside0.mk hi827_5
             have HC827_5 := Aside0.mk hl827_5
             clear hi827_5 hl827_5
             have HR827_6 := Aside0.mk hi827_6
             have HC827_6 := Aside0.mk hl827_6
             clear hi827_6 hl827_6
             replace p827 := eq_true p827
             replace q827 := eq_true q827
             have p828 : 0 ≤ (x8_1 : Int) := of_decide_eq_true (by assumption)
             have q828 : x8_1 < (l0.length : Int) := of_decide_eq_true (by assumption)
             obtain ⟨ad828, A828_5, c828_5, A828_6, c828_6, e828, hx828_0, hx828_1, hx828_2, hx828_3, hx828_4, hx828_5, hx828_6, hl828_5, hi828_5, hl828_6, hi828_6⟩ := at_T42 HR0.out x8_1 p828 q828
             obtain rfl : ad827 = ad828 := (by injection e828)
             obtain ⟨hx828_0, hx828_1, hx828_2, hx828_3, hx828_4, hx828_5, hx828_6⟩ := cb7 HB.out hx828_0 hx828_1 hx828_2 hx828_3 hx828_4 hx828_5 hx828_6
             have HR828_5 := Aside0.mk hi828_5
             have HC828_5 := Aside0.mk hl828_5
             clear hi828_5 hl828_5
             have HR828_6 := Aside0.mk hi828_6
             have HC828_6 := Aside0.mk hl828_6
             clear hi828_6 hl828_6
             replace p828 := eq_true p828
             replace q828 := eq_true q828
             have ea_ := Option.some.inj (hx827_5.symm.trans hx828_5)
             injection ea_ with ea_ en_ ec_
             subst ea_
             subst ec_
             clear en_
             have ea_ := Option.some.inj (hx827_6.symm.trans hx828_6)
             injection ea_ with ea_ en_ ec_
             subst ea_
             subst ec_
             clear en_
             have p829 : 0 ≤ (x8_1 : Int) := of_decide_eq_true (by assumption)
             have q829 : x8_1 < (l0.length : Int) := of_decide_eq_true (by assumption)
             obtain ⟨ad829, A829_5, c829_5, A829_6, c829_6, e829, hx829_0, hx829_1, hx829_2, hx829_3, hx829_4, hx829_5, hx829_6, hl829_5, hi829_5, hl829_6, hi829_6⟩ := at_T42 HR0.out x8_1 p829 q829
             obtain rfl : ad827 = ad829 := (by injection e829)
             obtain ⟨hx829_0, hx829_1, hx829_2, hx829_3, hx829_4, hx829_5, hx829_6⟩ := cb7 HB.out hx829_0 hx829_1 hx829_2 hx829_3 hx829_4 hx829_5 hx829_6
             have HR829_5 := Aside0.mk hi829_5
             have HC829_5 := Aside0.mk hl829_5
             clear hi829_5 hl829_5
             have HR829_6 := Aside0.mk hi829_6
             have HC829_6 := Aside0.mk hl829_6
             clear hi829_6 hl829_6
             replace p829 := eq_true p829
             replace q829 := eq_true q829
             have ea_ := Option.some.inj (hx827_5.symm.trans hx829_5)
             injection ea_ with ea_ en_ ec_
             subst ea_
             subst ec_
             clear en_
             have ea_ := Option.some.inj (hx827_6.symm.trans hx829_6)
             injection ea_ with ea_ en_ ec_
             subst ea_
             subst ec_
             clear en_
             have p830 : 0 ≤ (x7_1 : Int) := of_decide_eq_true (by assumption)
             have q830 : x7_1 < (l0.length : Int) := of_decide_eq_true (by assumption)
             obtain ⟨ad830, A830_5, c830_5, A830_6, c830_6, e830, hx830_0, hx830_1, hx830_2, hx830_3, hx830_4, hx830_5, hx830_6, hl830_5, hi830_5, hl830_6, hi830_6⟩ := at_T42 HR0.out x7_1 p830 q830
             obtain rfl : ad827 = ad830 := (by injection e830)
             obtain ⟨hx830_0, hx830_1, hx830_2, hx830_3, hx830_4, hx830_5, hx830_6⟩ := cb7 HB.out hx830_0 hx830_1 hx830_2 hx830_3 hx830_4 hx830_5 hx830_6
             have HR830_5 := Aside0.mk hi830_5
             have HC830_5 := Aside0.mk hl830_5
             clear hi830_5 hl830_5
             have HR830_6 := Aside0.mk hi830_6
             have HC830_6 := Aside0.mk hl830_6
             clear hi830_6 hl830_6
             replace p830 := eq_true p830
             replace q830 := eq_true q830
             go_wp2
             repeat (go_quiet (fail); try go_wp2)
             go_roundg k1
             case measure => have := HK1.out; omega
             case rel => exact ⟨(x7_1), (wrap64 (x8_1 + 1)), (by first | rfl | (simp; done) | (simp [*]; done)), (by first | rfl | (simp; done) | (simp [*]; done)), H', ⟨by have := HK1.out; omega⟩, ⟨bk BK823⟩, ⟨bs HB (by simp [ag, GE823.out])⟩⟩
           ·rw [if_neg c15] at H
            exact absurd H (by simp)
          ·rw [if_neg c14] at H
           exact absurd H (by simp)
        ·rw [if_neg c12] at H
         have c12b0 : decide ((wrap64 (Int.tdiv t826 (l0.length : Int))) ≤ ((rd_T42 l0 x8_1).f3)) = false := decide_eq_false c12
         clear c12
         have H' := Aside0.mk H
         clear H
         have p827 : 0 ≤ (x8_1 : Int) := of_decide_eq_true (by assumption)
         have q827 : x8_1 < (l0.length : Int) := of_decide_eq_true (by assumption)
         obtain ⟨ad827, A827_5, c827_5, A827_6, c827_6, e827, hx827_0, hx827_1, hx827_2, hx827_3, hx827_4, hx827_5, hx827_6, hl827_5, hi827_5, hl827_6, hi827_6⟩ := at_T42 HR0.out x8_1 p827 q827
         cases e827
         obtain ⟨hx827_0, hx827_1, hx827_2, hx827_3, hx827_4, hx827_5, hx827_6⟩ := cb7 HB.out hx827_0 hx827_1 hx827_2 hx827_3 hx827_4 hx827_5 hx827_6
         have HR827_5 := Aside0.mk hi827_5
         have HC827_5 := Aside0.mk hl827_5
         clear hi827_5 hl827_5
         have HR827_6 := Aside0.mk hi827_6
         have HC827_6 := Aside0.mk hl827_6
         clear hi827_6 hl827_6
         replace p827 := eq_true p827
         replace q827 := eq_true q827
         have p828 : 0 ≤ (x8_1 : Int) := of_decide_eq_true (by assumption)
         have q828 : x8_1 < (l0.length : Int) := of_decide_eq_true (by assumption)
         obtain ⟨ad828, A828_5, c828_5, A828_6, c828_6, e828, hx828_0, hx828_1, hx828_2, hx828_3, hx828_4, hx828_5, hx828_6, hl828_5, hi828_5, hl828_6, hi828_6⟩ := at_T42 HR0.out x8_1 p828 q828
         obtain rfl : ad827 = ad828 := (by injection e828)
         obtain ⟨hx828_0, hx828_1, hx828_2, hx828_3, hx828_4, hx828_5, hx828_6⟩ := cb7 HB.out hx828_0 hx828_1 hx828_2 hx828_3 hx828_4 hx828_5 hx828_6
         have HR828_5 := Aside0.mk hi828_5
         have HC828_5 := Aside0.mk hl828_5
         clear hi828_5 hl828_5
         have HR828_6 := Aside0.mk hi828_6
         have HC828_6 := Aside0.mk hl828_6
         clear hi828_6 hl828_6
         replace p828 := eq_true p828
         replace q828 := eq_true q828
         have ea_ := Option.some.inj (hx827_5.symm.trans hx828_5)
         injection ea_ with ea_ en_ ec_
         subst ea_
         subst ec_
         clear en_
         have ea_ := Option.some.inj (hx827_6.symm.trans hx828_6)
         injection ea_ with ea_ en_ ec_
         subst ea_
         subst ec_
         clear en_
         go_wp2
         repeat (go_quiet (fail); try go_wp2)
         go_roundg k1
         case measure => have := HK1.out; omega
         case rel => exact ⟨(x7_1), (wrap64 (x8_1 + 1)), (by first | rfl | (simp; done) | (simp [*]; done)), (by first | rfl | (simp; done) | (simp [*]; done)), H', ⟨by have := HK1.out; omega⟩, ⟨bk BK823⟩, ⟨bs HB (by simp [ag, GE823.out])⟩⟩
      ·rw [if_neg c10] at H
       have c10b0 : decide (1 ≤ ((rd_T42 l0 x8_1).f3)) = false := decide_eq_false c10
       clear c10
       have H' := Aside0.mk H
       clear H
       have p827 : 0 ≤ (x8_1 : Int) := of_decide_eq_true (by assumption)
       have q827 : x8_1 < (l0.length : Int) := of_decide_eq_true (by assumption)
       obtain ⟨ad827, A827_5, c827_5, A827_6, c827_6, e827, hx827_0, hx827_1, hx827_2, hx827_3, hx827_4, hx827_5, hx827_6, hl827_5, hi827_5, hl827_6, hi827_6⟩ := at_T42 HR0.out x8_1 p827 q827
       cases e827
       obtain ⟨hx827_0, hx827_1, hx827_2, hx827_3, hx827_4, hx827_5, hx827_6⟩ := cb7 HB.out hx827_0 hx827_1 hx827_2 hx827_3 hx827_4 hx827_5 hx827_6
       have HR827_5 := Aside0.mk hi827_5
       have HC827_5 := Aside0.mk hl827_5
       clear hi827_5 hl827_5
       have HR827_6 := Aside0.mk hi827_6
       have HC827_6 := Aside0.mk hl827_6
       clear hi827_6 hl827_6
       replace p827 := eq_true p827
       replace q827 := eq_true q827
       go_wp2
       repeat (go_quiet (fail); try go_wp2)
       go_roundg k1
       case measure => have := HK1.out; omega
       case rel => exact ⟨(x7_1), (wrap64 (x8_1 + 1)), (by first | rfl | (simp; done) | (simp [*]; done)), (by first | rfl | (simp; done) | (simp [*]; done)), H', ⟨by have := HK1.out; omega⟩, ⟨bk BK823⟩, ⟨bs HB (by simp [ag, GE823.out])⟩⟩
     ·rw [if_neg c9] at H
      exact absurd H (by simp)
    ·rw [if_neg c8] at H
     have c8b0 : decide (x8_1 < (l0.length : Int)) = false := decide_eq_false c8
     clear c8
     by_cases c17 : x7_1 < 0
     ·rw [if_pos c17] at H
      have c17b0 : decide (x7_1 < 0) = true := decide_eq_true c17
      clear c17
      simp only [Option.some.injEq, Prod.mk.injEq] at H
      obtain ⟨rfl, rfl, rfl, rfl⟩ := H
      obtain ⟨hcz18_0, hcz18_1, hfz18_0, hfz18_1⟩ := cf2 BK823
      go_wp2
      repeat (go_quiet (fail); try go_wp2)
      refine bodyPost_ret (results_list (rs := [.tmp 2, .cell 3 24, .tmp 4]) rfl (by simp) (.tmp (.cell gb823 24 #[.int .i64 0, .int .i64 0] (0, 0) _ rfl (by (with_reducible repeat (first | refine blk_drewN ?_ _ | refine blk_drew ?_ | refine blk_alloc ?_ _)); refine blk_put (cs := #[.int .i64 0, .int .i64 0]) ?_ 1 _ rfl; (with_reducible repeat (first | refine blk_drewN ?_ _ | refine blk_drew ?_ | refine blk_alloc ?_ _)); refine blk_put (cs := #[.int .i64 0, .int .i64 0]) ?_ 0 _ rfl; (with_reducible repeat (first | refine blk_drewN ?_ _ | refine blk_drew ?_ | refine blk_alloc ?_ _)); exact BK823.out) Try.underlying24 rfl (by kernel_rfl) (.tmp .nil)))) rfl ?_
      exact ⟨_, by first | rfl | (simp [errW_none, errW_some] <;> rfl) | (simp [*, errW_none, errW_some] <;> rfl), by first | exact Kd.S_nil _ _ _ _ _ | exact Kd.N_nil _ _ _ _ _ | exact Kd.V_nil _ _ _ _ _ | exact Kd.Q_nil _ _ _ _ _ | exact Kd.R_nil _ _ _ _ _, bs HB (by simp [ag, GE823.out])⟩
     ·rw [if_neg c17] at H
      have c17b0 : decide (x7_1 < 0) = false := decide_eq_false c17
      clear c17
      replace H := Option.bind_eq_some_iff.mp H
      obtain ⟨⟨t831, t834, t835, t836⟩, A190, H⟩ := H
      try dsimp -implicitDefEqProofs -simprocs only at H
      have A19 := Aside0.mk A190
      clear A190
      simp only [Option.some.injEq, Prod.mk.injEq] at H
      obtain ⟨rfl, rfl, rfl, rfl⟩ := H
      go_wp2_with (first | (go_at_call 71; (with_reducible refine (selvedgeref18_first.calls _ _ l0 x7_1 t831 t834 t835 t836 _ ?side1 ?side2 A19.out).mono ?_); (case side1 => exact ck (Kd.C_below HR0.out HB.out)); (case side2 => exact HC0.out); rintro e w20 ⟨v832, rfl, ho0, hb⟩; have hone_v832 := Kd.S_one ho0; have HO833 := Aside0.mk (Kd.S_lower ho0 (below_size (bs HB (by simp [ag, GE823.out])))); replace BK823 := Aside0.mk (bb BK823 hb); replace HB := Aside0.mk (below_step (bs HB (by simp [ag, GE823.out])) hb); clear ho0 hb; obtain ⟨hcz21_0, hcz21_1, hfz21_0, hfz21_1⟩ := cf2 BK823))
      repeat (go_quiet (first | (go_at_call 71; (with_reducible refine (selvedgeref18_first.calls _ _ l0 x7_1 t831 t834 t835 t836 _ ?side1 ?side2 A19.out).mono ?_); (case side1 => exact ck (Kd.C_below HR0.out HB.out)); (case side2 => exact HC0.out); rintro e w20 ⟨v832, rfl, ho0, hb⟩; have hone_v832 := Kd.S_one ho0; have HO833 := Aside0.mk (Kd.S_lower ho0 (below_size (bs HB (by simp [ag, GE823.out])))); replace BK823 := Aside0.mk (bb BK823 hb); replace HB := Aside0.mk (below_step (bs HB (by simp [ag, GE823.out])) hb); clear ho0 hb; obtain ⟨hcz21_0, hcz21_1, hfz21_0, hfz21_1⟩ := cf2 BK823)); try go_wp2_with (first | (go_at_call 71; (with_reducible refine (selvedgeref18_first.calls _ _ l0 x7_1 t831 t834 t835 t836 _ ?side1 ?side2 A19.out).mono ?_); (case side1 => exact ck (Kd.C_below HR0.out HB.out)); (case side2 => exact HC0.out); rintro e w20 ⟨v832, rfl, ho0, hb⟩; have hone_v832 := Kd.S_one ho0; have HO833 := Aside0.mk (Kd.S_lower ho0 (below_size (bs HB (by simp [ag, GE823.out])))); replace BK823 := Aside0.mk (bb BK823 hb); replace HB := Aside0.mk (below_step (bs HB (by simp [ag, GE823.out])) hb); clear ho0 hb; obtain ⟨hcz21_0, hcz21_1, hfz21_0, hfz21_1⟩ := cf2 BK823)))
      refine bodyPost_ret (results_list (rs := [.tmp 2, .cell 3 24, .tmp 4]) rfl (by simp) (.tmp (.cell gb823 24 #[.int .i64 t834, .int .i64 t835] (0, 0) _ rfl (by (with_reducible repeat (first | refine blk_drewN ?_ _ | refine blk_drew ?_ | refine blk_alloc ?_ _)); refine blk_put (cs := #[.int .i64 t834, .int .i64 0]) ?_ 1 _ rfl; (with_reducible repeat (first | refine blk_drewN ?_ _ | refine blk_drew ?_ | refine blk_alloc ?_ _)); refine blk_put (cs := #[.int .i64 0, .int .i64 0]) ?_ 0 _ rfl; (with_reducible repeat (first | refine blk_drewN ?_ _ | refine blk_drew ?_ | refine blk_alloc ?_ _)); exact BK823.out) Try.underlying24 rfl (by kernel_rfl) (.tmp .nil)))) rfl ?_
      exact ⟨_, by first | rfl | (simp [errW_none, errW_some] <;> rfl) | (simp [*, errW_none, errW_some] <;> rfl), by (with_reducible repeat (first | apply Kd.S_alloc | apply Kd.S_drewN | apply Kd.S_drew)); exact Kd.S_mono (Kd.S_far (p := ⟨gb823, 1, none⟩) (Kd.S_far (p := ⟨gb823, 0, none⟩) (Kd.S_types HO833.out BK823.out (by decide)) (fun _ hk => hk.2) (.int .i64 t834)) (fun _ hk => hk.2) (.int .i64 t835)) (fun _ hk => trivial), bs HB (by simp [ag, GE823.out])⟩
 ·replace c3 := Bool.eq_false_iff.mpr c3
  subst c3
  have H1 : (some (([] : List (S42)), 0, 0, 3)) = some (r1, r2, r3, r4) := by rw [if_neg (show ¬ (false = true) by decide)] at H; exact H
  clear H
  have H := H1
  clear H1
  simp only [Option.some.injEq, Prod.mk.injEq] at H
  obtain ⟨rfl, rfl, rfl, rfl⟩ := H
  go_enter Try.func42, Try.ntmps42
  go_wp2_with (first | ((with_reducible refine gate_dst (N := 3) rfl ?_); (try (refine gate_guard (by rfl) ?_; dsimp only)); refine box_event rfl (N := 3) rfl (cs := #[.int .i64 0, .int .i64 0]) (t := 24) (by first | (go_simp; done) | (go_simp; rfl)) ?_; intro gb823 hg w22 hbox hb; have BK823 := Aside0.mk (hbox); have GW823 := gs HB hg; have GE823 := gs HB hg; replace HB := Aside0.mk (below_step (bl HB) hb); clear hb hbox hg) | (go_at_call 20; (with_reducible refine (selvedgeref18_Whole.calls k _ _ l0 false _ ?side1 ?side2 A2.out).mono ?_); (case side1 => exact ck (Kd.C_below HR0.out HB.out)); (case side2 => exact HC0.out); rintro e w23 ⟨rfl, hb⟩; replace BK823 := Aside0.mk (bb BK823 hb); replace HB := Aside0.mk (below_step (bs HB (by simp [ag, GE823.out])) hb); (try clear hb); (try clear hb2); (try clear hk); (try clear hi); obtain ⟨hcz24_0, hcz24_1, hfz24_0, hfz24_1⟩ := cf2 BK823))
  repeat (go_quiet (first | ((with_reducible refine gate_dst (N := 3) rfl ?_); (try (refine gate_guard (by rfl) ?_; dsimp only)); refine box_event rfl (N := 3) rfl (cs := #[.int .i64 0, .int .i64 0]) (t := 24) (by first | (go_simp; done) | (go_simp; rfl)) ?_; intro gb823 hg w22 hbox hb; have BK823 := Aside0.mk (hbox); have GW823 := gs HB hg; have GE823 := gs HB hg; replace HB := Aside0.mk (below_step (bl HB) hb); clear hb hbox hg) | (go_at_call 20; (with_reducible refine (selvedgeref18_Whole.calls k _ _ l0 false _ ?side1 ?side2 A2.out).mono ?_); (case side1 => exact ck (Kd.C_below HR0.out HB.out)); (case side2 => exact HC0.out); rintro e w23 ⟨rfl, hb⟩; replace BK823 := Aside0.mk (bb BK823 hb); replace HB := Aside0.mk (below_step (bs HB (by simp [ag, GE823.out])) hb); (try clear hb); (try clear hb2); (try clear hk); (try clear hi); obtain ⟨hcz24_0, hcz24_1, hfz24_0, hfz24_1⟩ := cf2 BK823)); try go_wp2_with (first | ((with_reducible refine gate_dst (N := 3) rfl ?_); (try (refine gate_guard (by rfl) ?_; dsimp only)); refine box_event rfl (N := 3) rfl (cs := #[.int .i64 0, .int .i64 0]) (t := 24) (by first | (go_simp; done) | (go_simp; rfl)) ?_; intro gb823 hg w22 hbox hb; have BK823 := Aside0.mk (hbox); have GW823 := gs HB hg; have GE823 := gs HB hg; replace HB := Aside0.mk (below_step (bl HB) hb); clear hb hbox hg) | (go_at_call 20; (with_reducible refine (selvedgeref18_Whole.calls k _ _ l0 false _ ?side1 ?side2 A2.out).mono ?_); (case side1 => exact ck (Kd.C_below HR0.out HB.out)); (case side2 => exact HC0.out); rintro e w23 ⟨rfl, hb⟩; replace BK823 := Aside0.mk (bb BK823 hb); replace HB := Aside0.mk (below_step (bs HB (by simp [ag, GE823.out])) hb); (try clear hb); (try clear hb2); (try clear hk); (try clear hi); obtain ⟨hcz24_0, hcz24_1, hfz24_0, hfz24_1⟩ := cf2 BK823)))
  refine bodyPost_ret (results_list (rs := [.tmp 2, .cell 3 24, .tmp 4]) rfl (by simp) (.tmp (.cell gb823 24 #[.int .i64 0, .int .i64 0] (0, 0) _ rfl (by (with_reducible repeat (first | refine blk_drewN ?_ _ | refine blk_drew ?_ | refine blk_alloc ?_ _)); refine blk_put (cs := #[.int .i64 0, .int .i64 0]) ?_ 1 _ rfl; (with_reducible repeat (first | refine blk_drewN ?_ _ | refine blk_drew ?_ | refine blk_alloc ?_ _)); refine blk_put (cs := #[.int .i64 0, .int .i64 0]) ?_ 0 _ rfl; (with_reducible repeat (first | refine blk_drewN ?_ _ | refine blk_drew ?_ | refine blk_alloc ?_ _)); exact BK823.out) Try.underlying24 rfl (by kernel_rfl) (.tmp .nil)))) rfl ?_
  exact ⟨_, by first | rfl | (simp [errW_none, errW_some] <;> rfl) | (simp [*, errW_none, errW_some] <;> rfl), by first | exact Kd.S_nil _ _ _ _ _ | exact Kd.N_nil _ _ _ _ _ | exact Kd.V_nil _ _ _ _ _ | exact Kd.Q_nil _ _ _ _ _ | exact Kd.R_nil _ _ _ _ _, bs HB (by simp [ag, GE823.out])⟩


end Go.Proofs.Ytehjmmedghcndaa.PG
