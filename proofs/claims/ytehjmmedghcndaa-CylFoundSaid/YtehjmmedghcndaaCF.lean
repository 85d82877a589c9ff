import Derived.Test.YtehjmmedghcndaaCF1
import Derived.Test.YtehjmmedghcndaaCU
import Derived.Test.YtehjmmedghcndaaLT
/-! cyl.File. -/
namespace Go.Proofs.Ytehjmmedghcndaa.PG
open Go.RowKit Go.Proofs.YtehjmmedghcndaaW.PrintWords Go.Proofs.YtehjmmedghcndaaW.PrintLast Go.Proofs.YtehjmmedghcndaaW.PrintMore
attribute [local go_sem] Oper.semAt_some
open Go.Shelf
/-- An inode is taken for a file. -/
def fileS (l : List S42) (g : Int) : List S42 × Int × Int × Int :=
 if wholeB l = false then ([], 0, 0, 3) else if g < 0 ∨ (l.length : Int) ≤ g then ([], 0, 0, 2) else
 match (hashL g.toNat l.length).find? (fun x => (rd_T42 l x).f3 != 0) with
 | none => ([], 0, 0, 4)
 | some x => (l.set x.toNat (firstC (rd_T42 l x)), x, (mex (rd_T42 l x).f6 : Int), 0)
def fl_T9 : Bool × List (List Nat × List Nat) := (true, [([], []), ([], []), ([0, 0], [0]), ([1, 2, 0, 1, 2], [1]), ([3, 0, 1, 2, 3], [])])
def fl_B9 : List Nat := [0, 0, 1, 7, 15]
theorem fl_tab9 : rtab .any (opsOf Try.f40 9) = fl_T9 := by kernel_rfl
theorem fl_bits9 : waitsOk fl_T9.2 fl_B9 = true := by kernel_rfl
set_option maxHeartbeats 8000000 in
set_option maxRecDepth 100000 in
theorem file_wrong (A0 : Option Addr) (c0 : Nat) (l : List S42) (g : Int) (w : World) (hC : Kd.C k42 w A0 l.length l) (hc0 : l.length ≤ c0) (hsm : SmallL l) (hw : wholeB l = false) :
  Calls Try.prog 40 #[.slice A0 l.length c0, .int .i64 g] w fun e w' => e = .returned (.tuple #[.slice none 0 0, .agg #[.int .i64 0, .int .i64 0], .int .i64 3]) ∧ Below w.heap.size w w' := by
 have hwho := whole_is l hsm 0
 rw [hw] at hwho
 clear hw hsm
 have HC := Aside0.mk hC
 have HCC := Aside0.mk hc0
 have HWHO := Aside0.mk hwho
 clear hC hc0 hwho
 have hu42 := Try.underlying42
 have hu24 := Try.underlying24
 refine (callsIn_wide (n := 12)).1 ?_
 refine callsIn_of_wp_marks Try.func40 rfl trivial ?_ rfl
 simp only [Try.ntmps40, List.size_toArray, List.length_cons, List.length_nil, Nat.reduceAdd, Nat.reduceSub, Array.replicate_succ, Array.replicate_zero, List.push_toArray, List.append_toArray, List.nil_append, List.cons_append]
 refine wpIn_wide.2 ?_
 go_upto_region 1 with (first | ((with_reducible refine gate_dst (N := 2) rfl ?_); refine box_event rfl (N := 2) rfl (cs := #[.slice A0 l.length c0]) (t := 22) (by first | (go_simp; done) | (go_simp; rfl)) ?_; intro g2 hg w1 hbox hb; have K2_1 := Aside0.mk hbox; have P2 := Aside0.mk (show w.heap.size ≤ g2 by omega); have HB1 := Aside0.mk (hb); clear hb hbox hg) | ((with_reducible refine gate_dst (N := 4) rfl ?_); refine box_event rfl (N := 4) rfl (cs := #[.slice none 0 0]) (t := 22) (by first | (go_simp; done) | (go_simp; rfl)) ?_; intro g4 hg w2 hbox hb; have K4_2 := Aside0.mk hbox; have K2_2 := Aside0.mk (blk_below K2_1.out hb); have D24 := Aside0.mk (show g2 ≠ g4 by rw [hg]; have := blk_lt K2_1.out; omega); have P4 := Aside0.mk (show w.heap.size ≤ g4 by rw [hg]; exact HB1.out.size); have HB2 := Aside0.mk (below_step HB1.out hb); clear HB1 K2_1; clear hb hbox hg) | ((with_reducible refine gate_dst (N := 5) rfl ?_); refine box_event rfl (N := 5) rfl (cs := #[.int .i64 0, .int .i64 0]) (t := 24) (by first | (go_simp; done) | (go_simp; rfl)) ?_; intro g5 hg w3 hbox hb; have K5_3 := Aside0.mk hbox; have K2_3 := Aside0.mk (blk_below K2_2.out hb); have D25 := Aside0.mk (show g2 ≠ g5 by rw [hg]; have := blk_lt K2_2.out; omega); have K4_3 := Aside0.mk (blk_below K4_2.out hb); have D45 := Aside0.mk (show g4 ≠ g5 by rw [hg]; have := blk_lt K4_2.out; omega); have P5 := Aside0.mk (show w.heap.size ≤ g5 by rw [hg]; exact HB2.out.size); have HB3 := Aside0.mk (below_step HB2.out hb); clear HB2 K2_2 K4_2; clear hb hbox hg) | ((with_reducible refine gate_dst (N := 6) rfl ?_); refine box_event rfl (N := 6) rfl (cs := #[.int .i64 0]) (t := 26) (by first | (go_simp; done) | (go_simp; rfl)) ?_; intro g6 hg w4 hbox hb; have K6_4 := Aside0.mk hbox; have K2_4 := Aside0.mk (blk_below K2_3.out hb); have D26 := Aside0.mk (show g2 ≠ g6 by rw [hg]; have := blk_lt K2_3.out; omega); have K4_4 := Aside0.mk (blk_below K4_3.out hb); have D46 := Aside0.mk (show g4 ≠ g6 by rw [hg]; have := blk_lt K4_3.out; omega); have K5_4 := Aside0.mk (blk_below K5_3.out hb); have D56 := Aside0.mk (show g5 ≠ g6 by rw [hg]; have := blk_lt K5_3.out; omega); have P6 := Aside0.mk (show w.heap.size ≤ g6 by rw [hg]; exact HB3.out.size); have HB4 := Aside0.mk (below_step HB3.out hb); clear HB3 K2_3 K4_3 K5_3; clear hb hbox hg))
 have cl_ : w4.cell? ⟨g2, 0, none⟩ = some (.slice A0 l.length c0) := (blk_cell K2_4.out 0).trans rfl
 go_upto_region 2 with (go_at_call 19; refine (cyl_Whole.calls (0 + 2005) A0 c0 l false w4 (Kd.C_below HC.out HB4.out) HCC.out HWHO.out).mono ?_; rintro e w5 ⟨rfl, hb⟩; have K2_5 := Aside0.mk (blk_below K2_4.out hb); have K4_5 := Aside0.mk (blk_below K4_4.out hb); have K5_5 := Aside0.mk (blk_below K5_4.out hb); have K6_5 := Aside0.mk (blk_below K6_4.out hb); have HB5 := Aside0.mk (below_step HB4.out hb); clear hb K2_4 K4_4 K5_4 K6_4 HB4 cl_)
 have k4_ : w5.cell? ⟨g4, 0, none⟩ = some (.slice none 0 0) := (blk_cell K4_5.out 0).trans rfl
 have f4_ := blk_frozen K4_5.out 0
 have k5_ : w5.cell? ⟨g5, 0, none⟩ = some (.int .i64 0) := (blk_cell K5_5.out 0).trans rfl
 have f5_ := blk_frozen K5_5.out 0
 have k5a_ : w5.cell? ⟨g5, 1, none⟩ = some (.int .i64 0) := (blk_cell K5_5.out 1).trans rfl
 have f5a_ := blk_frozen K5_5.out 1
 have k6_ : w5.cell? ⟨g6, 0, none⟩ = some (.int .i64 0) := (blk_cell K6_5.out 0).trans rfl
 have f6_ := blk_frozen K6_5.out 0
 have n45 := D45.out
 have n46 := D46.out
 have n56 := D56.out
 have n54 := D45.out.symm
 have n64 := D46.out.symm
 have n65 := D56.out.symm
 go_wp2
 obtain ⟨w6_, hw⟩ : ∃ w6_, ((((w5.setCell ⟨g4, 0, none⟩ (.slice none 0 0)).setCell ⟨g5, 0, none⟩ (.int .i64 0)).setCell ⟨g5, 1, none⟩ (.int .i64 0)).setCell ⟨g6, 0, none⟩ (.int .i64 3)) = w6_ := ⟨_, rfl⟩
 rw [hw]
 have K4_6 : w6_.heap[g4]? = some (.cells #[.slice none 0 0] 22 (0, 0)) := by rw [← hw]; exact blk_far (blk_far (blk_far (blk_put K4_5.out 0 (.slice none 0 0) rfl) (p := ⟨g5, 0, none⟩) D45.out _) (p := ⟨g5, 1, none⟩) D45.out _) (p := ⟨g6, 0, none⟩) D46.out _
 have K5_6 : w6_.heap[g5]? = some (.cells #[.int .i64 0, .int .i64 0] 24 (0, 0)) := by rw [← hw]; exact blk_far (blk_put2 (blk_far K5_5.out (p := ⟨g4, 0, none⟩) (fun e => D45.out e.symm) _) rfl _ _) (p := ⟨g6, 0, none⟩) D56.out _
 have K6_6 : w6_.heap[g6]? = some (.cells #[.int .i64 3] 26 (0, 0)) := by rw [← hw]; exact blk_put (blk_far (blk_far (blk_far K6_5.out (p := ⟨g4, 0, none⟩) (fun e => D46.out e.symm) _) (p := ⟨g5, 0, none⟩) (fun e => D56.out e.symm) _) (p := ⟨g5, 1, none⟩) (fun e => D56.out e.symm) _) 0 _ rfl
 have HBW6 : Below w.heap.size w w6_ := by rw [← hw]; exact (((HB5.out.setCell (p := ⟨g4, 0, none⟩) P4.out _).setCell (p := ⟨g5, 0, none⟩) P5.out _).setCell (p := ⟨g5, 1, none⟩) P5.out _).setCell (p := ⟨g6, 0, none⟩) P6.out _
 have c4 : w6_.cell? ⟨g4, 0, none⟩ = some (.slice none 0 0) := (blk_cell K4_6 0).trans rfl
 have c5 : w6_.cell? ⟨g5, 0, none⟩ = some (.int .i64 0) := (blk_cell K5_6 0).trans rfl
 have c5a : w6_.cell? ⟨g5, 1, none⟩ = some (.int .i64 0) := (blk_cell K5_6 1).trans rfl
 have c6 : w6_.cell? ⟨g6, 0, none⟩ = some (.int .i64 3) := (blk_cell K6_6 0).trans rfl
 refine ⟨.tuple #[.slice none 0 0, .agg #[.int .i64 0, .int .i64 0], .int .i64 3], ?_, rfl, HBW6⟩
 simp [results, Try.f40, go_sem, c4, c5, c5a, c6]
set_option maxHeartbeats 8000000 in
set_option maxRecDepth 100000 in
theorem file_low (A0 : Option Addr) (c0 : Nat) (l : List S42) (g : Int) (w : World) (hC : Kd.C k42 w A0 l.length l) (hc0 : l.length ≤ c0) (hsm : SmallL l) (hw : wholeB l = true) (h1 : g < 0) :
  Calls Try.prog 40 #[.slice A0 l.length c0, .int .i64 g] w fun e w' => e = .returned (.tuple #[.slice none 0 0, .agg #[.int .i64 0, .int .i64 0], .int .i64 2]) ∧ Below w.heap.size w w' := by
 have hwho := whole_is l hsm 0
 rw [hw] at hwho
 have d1 : decide (g < 0) = true := decide_eq_true h1
 clear hw
 have HC := Aside0.mk hC
 have HCC := Aside0.mk hc0
 have HWHO := Aside0.mk hwho
 clear hC hc0 hwho
 have hu42 := Try.underlying42
 have hu24 := Try.underlying24
 refine (callsIn_wide (n := 12)).1 ?_
 refine callsIn_of_wp_marks Try.func40 rfl trivial ?_ rfl
 simp only [Try.ntmps40, List.size_toArray, List.length_cons, List.length_nil, Nat.reduceAdd, Nat.reduceSub, Array.replicate_succ, Array.replicate_zero, List.push_toArray, List.append_toArray, List.nil_append, List.cons_append]
 refine wpIn_wide.2 ?_
 go_upto_region 1 with (first | ((with_reducible refine gate_dst (N := 2) rfl ?_); refine box_event rfl (N := 2) rfl (cs := #[.slice A0 l.length c0]) (t := 22) (by first | (go_simp; done) | (go_simp; rfl)) ?_; intro g2 hg w1 hbox hb; have K2_1 := Aside0.mk hbox; have P2 := Aside0.mk (show w.heap.size ≤ g2 by omega); have HB1 := Aside0.mk (hb); clear hb hbox hg) | ((with_reducible refine gate_dst (N := 4) rfl ?_); refine box_event rfl (N := 4) rfl (cs := #[.slice none 0 0]) (t := 22) (by first | (go_simp; done) | (go_simp; rfl)) ?_; intro g4 hg w2 hbox hb; have K4_2 := Aside0.mk hbox; have K2_2 := Aside0.mk (blk_below K2_1.out hb); have D24 := Aside0.mk (show g2 ≠ g4 by rw [hg]; have := blk_lt K2_1.out; omega); have P4 := Aside0.mk (show w.heap.size ≤ g4 by rw [hg]; exact HB1.out.size); have HB2 := Aside0.mk (below_step HB1.out hb); clear HB1 K2_1; clear hb hbox hg) | ((with_reducible refine gate_dst (N := 5) rfl ?_); refine box_event rfl (N := 5) rfl (cs := #[.int .i64 0, .int .i64 0]) (t := 24) (by first | (go_simp; done) | (go_simp; rfl)) ?_; intro g5 hg w3 hbox hb; have K5_3 := Aside0.mk hbox; have K2_3 := Aside0.mk (blk_below K2_2.out hb); have D25 := Aside0.mk (show g2 ≠ g5 by rw [hg]; have := blk_lt K2_2.out; omega); have K4_3 := Aside0.mk (blk_below K4_2.out hb); have D45 := Aside0.mk (show g4 ≠ g5 by rw [hg]; have := blk_lt K4_2.out; omega); have P5 := Aside0.mk (show w.heap.size ≤ g5 by rw [hg]; exact HB2.out.size); have HB3 := Aside0.mk (below_step HB2.out hb); clear HB2 K2_2 K4_2; clear hb hbox hg) | ((with_reducible refine gate_dst (N := 6) rfl ?_); refine box_event rfl (N := 6) rfl (cs := #[.int .i64 0]) (t := 26) (by first | (go_simp; done) | (go_simp; rfl)) ?_; intro g6 hg w4 hbox hb; have K6_4 := Aside0.mk hbox; have K2_4 := Aside0.mk (blk_below K2_3.out hb); have D26 := Aside0.mk (show g2 ≠ g6 by rw [hg]; have := blk_lt K2_3.out; omega); have K4_4 := Aside0.mk (blk_below K4_3.out hb); have D46 := Aside0.mk (show g4 ≠ g6 by rw [hg]; have := blk_lt K4_3.out; omega); have K5_4 := Aside0.mk (blk_below K5_3.out hb); have D56 := Aside0.mk (show g5 ≠ g6 by rw [hg]; have := blk_lt K5_3.out; omega); have P6 := Aside0.mk (show w.heap.size ≤ g6 by rw [hg]; exact HB3.out.size); have HB4 := Aside0.mk (below_step HB3.out hb); clear HB3 K2_3 K4_3 K5_3; clear hb hbox hg))
 have cl_ : w4.cell? ⟨g2, 0, none⟩ = some (.slice A0 l.length c0) := (blk_cell K2_4.out 0).trans rfl
 go_upto_region 3 with (go_at_call 19; refine (cyl_Whole.calls (0 + 2005) A0 c0 l true w4 (Kd.C_below HC.out HB4.out) HCC.out HWHO.out).mono ?_; rintro e w5 ⟨rfl, hb⟩; have K2_5 := Aside0.mk (blk_below K2_4.out hb); have K4_5 := Aside0.mk (blk_below K4_4.out hb); have K5_5 := Aside0.mk (blk_below K5_4.out hb); have K6_5 := Aside0.mk (blk_below K6_4.out hb); have HB5 := Aside0.mk (below_step HB4.out hb); clear hb K2_4 K4_4 K5_4 K6_4 HB4 cl_)
 have cl_ : w5.cell? ⟨g2, 0, none⟩ = some (.slice A0 l.length c0) := (blk_cell K2_5.out 0).trans rfl
 go_upto_region 4 with (fail)
 have k4_ : w5.cell? ⟨g4, 0, none⟩ = some (.slice none 0 0) := (blk_cell K4_5.out 0).trans rfl
 have f4_ := blk_frozen K4_5.out 0
 have k5_ : w5.cell? ⟨g5, 0, none⟩ = some (.int .i64 0) := (blk_cell K5_5.out 0).trans rfl
 have f5_ := blk_frozen K5_5.out 0
 have k5a_ : w5.cell? ⟨g5, 1, none⟩ = some (.int .i64 0) := (blk_cell K5_5.out 1).trans rfl
 have f5a_ := blk_frozen K5_5.out 1
 have k6_ : w5.cell? ⟨g6, 0, none⟩ = some (.int .i64 0) := (blk_cell K6_5.out 0).trans rfl
 have f6_ := blk_frozen K6_5.out 0
 have n45 := D45.out
 have n46 := D46.out
 have n56 := D56.out
 have n54 := D45.out.symm
 have n64 := D46.out.symm
 have n65 := D56.out.symm
 go_wp2
 obtain ⟨w6_, hw⟩ : ∃ w6_, ((((w5.setCell ⟨g4, 0, none⟩ (.slice none 0 0)).setCell ⟨g5, 0, none⟩ (.int .i64 0)).setCell ⟨g5, 1, none⟩ (.int .i64 0)).setCell ⟨g6, 0, none⟩ (.int .i64 2)) = w6_ := ⟨_, rfl⟩
 rw [hw]
 have K4_6 : w6_.heap[g4]? = some (.cells #[.slice none 0 0] 22 (0, 0)) := by rw [← hw]; exact blk_far (blk_far (blk_far (blk_put K4_5.out 0 (.slice none 0 0) rfl) (p := ⟨g5, 0, none⟩) D45.out _) (p := ⟨g5, 1, none⟩) D45.out _) (p := ⟨g6, 0, none⟩) D46.out _
 have K5_6 : w6_.heap[g5]? = some (.cells #[.int .i64 0, .int .i64 0] 24 (0, 0)) := by rw [← hw]; exact blk_far (blk_put2 (blk_far K5_5.out (p := ⟨g4, 0, none⟩) (fun e => D45.out e.symm) _) rfl _ _) (p := ⟨g6, 0, none⟩) D56.out _
 have K6_6 : w6_.heap[g6]? = some (.cells #[.int .i64 2] 26 (0, 0)) := by rw [← hw]; exact blk_put (blk_far (blk_far (blk_far K6_5.out (p := ⟨g4, 0, none⟩) (fun e => D46.out e.symm) _) (p := ⟨g5, 0, none⟩) (fun e => D56.out e.symm) _) (p := ⟨g5, 1, none⟩) (fun e => D56.out e.symm) _) 0 _ rfl
 have HBW6 : Below w.heap.size w w6_ := by rw [← hw]; exact (((HB5.out.setCell (p := ⟨g4, 0, none⟩) P4.out _).setCell (p := ⟨g5, 0, none⟩) P5.out _).setCell (p := ⟨g5, 1, none⟩) P5.out _).setCell (p := ⟨g6, 0, none⟩) P6.out _
 have c4 : w6_.cell? ⟨g4, 0, none⟩ = some (.slice none 0 0) := (blk_cell K4_6 0).trans rfl
 have c5 : w6_.cell? ⟨g5, 0, none⟩ = some (.int .i64 0) := (blk_cell K5_6 0).trans rfl
 have c5a : w6_.cell? ⟨g5, 1, none⟩ = some (.int .i64 0) := (blk_cell K5_6 1).trans rfl
 have c6 : w6_.cell? ⟨g6, 0, none⟩ = some (.int .i64 2) := (blk_cell K6_6 0).trans rfl
 refine ⟨.tuple #[.slice none 0 0, .agg #[.int .i64 0, .int .i64 0], .int .i64 2], ?_, rfl, HBW6⟩
 simp [results, Try.f40, go_sem, c4, c5, c5a, c6]
set_option maxHeartbeats 8000000 in
set_option maxRecDepth 100000 in
theorem file_high (A0 : Option Addr) (c0 : Nat) (l : List S42) (g : Int) (w : World) (hC : Kd.C k42 w A0 l.length l) (hc0 : l.length ≤ c0) (hsm : SmallL l) (hw : wholeB l = true) (h1 : 0 ≤ g) (h2 : (l.length : Int) ≤ g) :
  Calls Try.prog 40 #[.slice A0 l.length c0, .int .i64 g] w fun e w' => e = .returned (.tuple #[.slice none 0 0, .agg #[.int .i64 0, .int .i64 0], .int .i64 2]) ∧ Below w.heap.size w w' := by
 have hwho := whole_is l hsm 0
 rw [hw] at hwho
 have d1 : decide (g < 0) = false := decide_eq_false (by omega)
 have d2 : decide ((l.length : Int) ≤ g) = true := decide_eq_true h2
 clear hw
 have HC := Aside0.mk hC
 have HCC := Aside0.mk hc0
 have HWHO := Aside0.mk hwho
 clear hC hc0 hwho
 have hu42 := Try.underlying42
 have hu24 := Try.underlying24
 refine (callsIn_wide (n := 12)).1 ?_
 refine callsIn_of_wp_marks Try.func40 rfl trivial ?_ rfl
 simp only [Try.ntmps40, List.size_toArray, List.length_cons, List.length_nil, Nat.reduceAdd, Nat.reduceSub, Array.replicate_succ, Array.replicate_zero, List.push_toArray, List.append_toArray, List.nil_append, List.cons_append]
 refine wpIn_wide.2 ?_
 go_upto_region 1 with (first | ((with_reducible refine gate_dst (N := 2) rfl ?_); refine box_event rfl (N := 2) rfl (cs := #[.slice A0 l.length c0]) (t := 22) (by first | (go_simp; done) | (go_simp; rfl)) ?_; intro g2 hg w1 hbox hb; have K2_1 := Aside0.mk hbox; have P2 := Aside0.mk (show w.heap.size ≤ g2 by omega); have HB1 := Aside0.mk (hb); clear hb hbox hg) | ((with_reducible refine gate_dst (N := 4) rfl ?_); refine box_event rfl (N := 4) rfl (cs := #[.slice none 0 0]) (t := 22) (by first | (go_simp; done) | (go_simp; rfl)) ?_; intro g4 hg w2 hbox hb; have K4_2 := Aside0.mk hbox; have K2_2 := Aside0.mk (blk_below K2_1.out hb); have D24 := Aside0.mk (show g2 ≠ g4 by rw [hg]; have := blk_lt K2_1.out; omega); have P4 := Aside0.mk (show w.heap.size ≤ g4 by rw [hg]; exact HB1.out.size); have HB2 := Aside0.mk (below_step HB1.out hb); clear HB1 K2_1; clear hb hbox hg) | ((with_reducible refine gate_dst (N := 5) rfl ?_); refine box_event rfl (N := 5) rfl (cs := #[.int .i64 0, .int .i64 0]) (t := 24) (by first | (go_simp; done) | (go_simp; rfl)) ?_; intro g5 hg w3 hbox hb; have K5_3 := Aside0.mk hbox; have K2_3 := Aside0.mk (blk_below K2_2.out hb); have D25 := Aside0.mk (show g2 ≠ g5 by rw [hg]; have := blk_lt K2_2.out; omega); have K4_3 := Aside0.mk (blk_below K4_2.out hb); have D45 := Aside0.mk (show g4 ≠ g5 by rw [hg]; have := blk_lt K4_2.out; omega); have P5 := Aside0.mk (show w.heap.size ≤ g5 by rw [hg]; exact HB2.out.size); have HB3 := Aside0.mk (below_step HB2.out hb); clear HB2 K2_2 K4_2; clear hb hbox hg) | ((with_reducible refine gate_dst (N := 6) rfl ?_); refine box_event rfl (N := 6) rfl (cs := #[.int .i64 0]) (t := 26) (by first | (go_simp; done) | (go_simp; rfl)) ?_; intro g6 hg w4 hbox hb; have K6_4 := Aside0.mk hbox; have K2_4 := Aside0.mk (blk_below K2_3.out hb); have D26 := Aside0.mk (show g2 ≠ g6 by rw [hg]; have := blk_lt K2_3.out; omega); have K4_4 := Aside0.mk (blk_below K4_3.out hb); have D46 := Aside0.mk (show g4 ≠ g6 by rw [hg]; have := blk_lt K4_3.out; omega); have K5_4 := Aside0.mk (blk_below K5_3.out hb); have D56 := Aside0.mk (show g5 ≠ g6 by rw [hg]; have := blk_lt K5_3.out; omega); have P6 := Aside0.mk (show w.heap.size ≤ g6 by rw [hg]; exact HB3.out.size); have HB4 := Aside0.mk (below_step HB3.out hb); clear HB3 K2_3 K4_3 K5_3; clear hb hbox hg))
 have cl_ : w4.cell? ⟨g2, 0, none⟩ = some (.slice A0 l.length c0) := (blk_cell K2_4.out 0).trans rfl
 go_upto_region 3 with (go_at_call 19; refine (cyl_Whole.calls (0 + 2005) A0 c0 l true w4 (Kd.C_below HC.out HB4.out) HCC.out HWHO.out).mono ?_; rintro e w5 ⟨rfl, hb⟩; have K2_5 := Aside0.mk (blk_below K2_4.out hb); have K4_5 := Aside0.mk (blk_below K4_4.out hb); have K5_5 := Aside0.mk (blk_below K5_4.out hb); have K6_5 := Aside0.mk (blk_below K6_4.out hb); have HB5 := Aside0.mk (below_step HB4.out hb); clear hb K2_4 K4_4 K5_4 K6_4 HB4 cl_)
 have cl_ : w5.cell? ⟨g2, 0, none⟩ = some (.slice A0 l.length c0) := (blk_cell K2_5.out 0).trans rfl
 go_upto_region 4 with (fail)
 have k4_ : w5.cell? ⟨g4, 0, none⟩ = some (.slice none 0 0) := (blk_cell K4_5.out 0).trans rfl
 have f4_ := blk_frozen K4_5.out 0
 have k5_ : w5.cell? ⟨g5, 0, none⟩ = some (.int .i64 0) := (blk_cell K5_5.out 0).trans rfl
 have f5_ := blk_frozen K5_5.out 0
 have k5a_ : w5.cell? ⟨g5, 1, none⟩ = some (.int .i64 0) := (blk_cell K5_5.out 1).trans rfl
 have f5a_ := blk_frozen K5_5.out 1
 have k6_ : w5.cell? ⟨g6, 0, none⟩ = some (.int .i64 0) := (blk_cell K6_5.out 0).trans rfl
 have f6_ := blk_frozen K6_5.out 0
 have n45 := D45.out
 have n46 := D46.out
 have n56 := D56.out
 have n54 := D45.out.symm
 have n64 := D46.out.symm
 have n65 := D56.out.symm
 go_wp2
 obtain ⟨w6_, hw⟩ : ∃ w6_, ((((w5.setCell ⟨g4, 0, none⟩ (.slice none 0 0)).setCell ⟨g5, 0, none⟩ (.int .i64 0)).setCell ⟨g5, 1, none⟩ (.int .i64 0)).setCell ⟨g6, 0, none⟩ (.int .i64 2)) = w6_ := ⟨_, rfl⟩
 rw [hw]
 have K4_6 : w6_.heap[g4]? = some (.cells #[.slice none 0 0] 22 (0, 0)) := by rw [← hw]; exact blk_far (blk_far (blk_far (blk_put K4_5.out 0 (.slice none 0 0) rfl) (p := ⟨g5, 0, none⟩) D45.out _) (p := ⟨g5, 1, none⟩) D45.out _) (p := ⟨g6, 0, none⟩) D46.out _
 have K5_6 : w6_.heap[g5]? = some (.cells #[.int .i64 0, .int .i64 0] 24 (0, 0)) := by rw [← hw]; exact blk_far (blk_put2 (blk_far K5_5.out (p := ⟨g4, 0, none⟩) (fun e => D45.out e.symm) _) rfl _ _) (p := ⟨g6, 0, none⟩) D56.out _
 have K6_6 : w6_.heap[g6]? = some (.cells #[.int .i64 2] 26 (0, 0)) := by rw [← hw]; exact blk_put (blk_far (blk_far (blk_far K6_5.out (p := ⟨g4, 0, none⟩) (fun e => D46.out e.symm) _) (p := ⟨g5, 0, none⟩) (fun e => D56.out e.symm) _) (p := ⟨g5, 1, none⟩) (fun e => D56.out e.symm) _) 0 _ rfl
 have HBW6 : Below w.heap.size w w6_ := by rw [← hw]; exact (((HB5.out.setCell (p := ⟨g4, 0, none⟩) P4.out _).setCell (p := ⟨g5, 0, none⟩) P5.out _).setCell (p := ⟨g5, 1, none⟩) P5.out _).setCell (p := ⟨g6, 0, none⟩) P6.out _
 have c4 : w6_.cell? ⟨g4, 0, none⟩ = some (.slice none 0 0) := (blk_cell K4_6 0).trans rfl
 have c5 : w6_.cell? ⟨g5, 0, none⟩ = some (.int .i64 0) := (blk_cell K5_6 0).trans rfl
 have c5a : w6_.cell? ⟨g5, 1, none⟩ = some (.int .i64 0) := (blk_cell K5_6 1).trans rfl
 have c6 : w6_.cell? ⟨g6, 0, none⟩ = some (.int .i64 2) := (blk_cell K6_6 0).trans rfl
 refine ⟨.tuple #[.slice none 0 0, .agg #[.int .i64 0, .int .i64 0], .int .i64 2], ?_, rfl, HBW6⟩
 simp [results, Try.f40, go_sem, c4, c5, c5a, c6]
set_option maxHeartbeats 8000000 in
set_option maxRecDepth 100000 in
theorem file_ok (A0 : Option Addr) (c0 : Nat) (l : List S42) (gn : Nat) (w : World) (hC : Kd.C k42 w A0 l.length l) (hc0 : l.length ≤ c0) (hw : wholeB l = true) (hgl : gn < l.length) :
  Calls Try.prog 40 #[.slice A0 l.length c0, .int .i64 (gn : Int)] w fun e w' => ∃ v, e = .returned (.tuple #[v, .agg #[.int .i64 (fileS l gn).2.1, .int .i64 (fileS l gn).2.2.1], .int .i64 (fileS l gn).2.2.2]) ∧ Kd.S k42 42 w' w.heap.size (fun _ => True) v (fileS l gn).1 ∧ Below w.heap.size w w' := by
 have hw_ := (whole_iff l).1 hw
 have hn := hw_.n1
 have hwho := whole_is l hw_.small 0
 rw [hw] at hwho
 have HWH := Aside0.mk hw_
 have HWB := Aside0.mk hw
 clear hw hw_
 have HC := Aside0.mk hC
 have HCC := Aside0.mk hc0
 have HWHO := Aside0.mk hwho
 clear hC hc0 hwho
 have hu42 := Try.underlying42
 have hu24 := Try.underlying24
 refine (callsIn_wide (n := 12)).1 ?_
 refine callsIn_of_wp_marks Try.func40 rfl trivial ?_ rfl
 simp only [Try.ntmps40, List.size_toArray, List.length_cons, List.length_nil, Nat.reduceAdd, Nat.reduceSub, Array.replicate_succ, Array.replicate_zero, List.push_toArray, List.append_toArray, List.nil_append, List.cons_append]
 refine wpIn_wide.2 ?_
 go_upto_region 1 with (first | ((with_reducible refine gate_dst (N := 2) rfl ?_); refine box_event rfl (N := 2) rfl (cs := #[.slice A0 l.length c0]) (t := 22) (by first | (go_simp; done) | (go_simp; rfl)) ?_; intro g2 hg w1 hbox hb; have K2_1 := Aside0.mk hbox; have P2 := Aside0.mk (show w.heap.size ≤ g2 by omega); have HB1 := Aside0.mk (hb); clear hb hbox hg) | ((with_reducible refine gate_dst (N := 4) rfl ?_); refine box_event rfl (N := 4) rfl (cs := #[.slice none 0 0]) (t := 22) (by first | (go_simp; done) | (go_simp; rfl)) ?_; intro g4 hg w2 hbox hb; have K4_2 := Aside0.mk hbox; have K2_2 := Aside0.mk (blk_below K2_1.out hb); have D24 := Aside0.mk (show g2 ≠ g4 by rw [hg]; have := blk_lt K2_1.out; omega); have P4 := Aside0.mk (show w.heap.size ≤ g4 by rw [hg]; exact HB1.out.size); have HB2 := Aside0.mk (below_step HB1.out hb); clear HB1 K2_1; clear hb hbox hg) | ((with_reducible refine gate_dst (N := 5) rfl ?_); refine box_event rfl (N := 5) rfl (cs := #[.int .i64 0, .int .i64 0]) (t := 24) (by first | (go_simp; done) | (go_simp; rfl)) ?_; intro g5 hg w3 hbox hb; have K5_3 := Aside0.mk hbox; have K2_3 := Aside0.mk (blk_below K2_2.out hb); have D25 := Aside0.mk (show g2 ≠ g5 by rw [hg]; have := blk_lt K2_2.out; omega); have K4_3 := Aside0.mk (blk_below K4_2.out hb); have D45 := Aside0.mk (show g4 ≠ g5 by rw [hg]; have := blk_lt K4_2.out; omega); have P5 := Aside0.mk (show w.heap.size ≤ g5 by rw [hg]; exact HB2.out.size); have HB3 := Aside0.mk (below_step HB2.out hb); clear HB2 K2_2 K4_2; clear hb hbox hg) | ((with_reducible refine gate_dst (N := 6) rfl ?_); refine box_event rfl (N := 6) rfl (cs := #[.int .i64 0]) (t := 26) (by first | (go_simp; done) | (go_simp; rfl)) ?_; intro g6 hg w4 hbox hb; have K6_4 := Aside0.mk hbox; have K2_4 := Aside0.mk (blk_below K2_3.out hb); have D26 := Aside0.mk (show g2 ≠ g6 by rw [hg]; have := blk_lt K2_3.out; omega); have K4_4 := Aside0.mk (blk_below K4_3.out hb); have D46 := Aside0.mk (show g4 ≠ g6 by rw [hg]; have := blk_lt K4_3.out; omega); have K5_4 := Aside0.mk (blk_below K5_3.out hb); have D56 := Aside0.mk (show g5 ≠ g6 by rw [hg]; have := blk_lt K5_3.out; omega); have P6 := Aside0.mk (show w.heap.size ≤ g6 by rw [hg]; exact HB3.out.size); have HB4 := Aside0.mk (below_step HB3.out hb); clear HB3 K2_3 K4_3 K5_3; clear hb hbox hg))
 have cl_ : w4.cell? ⟨g2, 0, none⟩ = some (.slice A0 l.length c0) := (blk_cell K2_4.out 0).trans rfl
 go_upto_region 3 with (go_at_call 19; refine (cyl_Whole.calls (0 + 2005) A0 c0 l true w4 (Kd.C_below HC.out HB4.out) HCC.out HWHO.out).mono ?_; rintro e w5 ⟨rfl, hb⟩; have K2_5 := Aside0.mk (blk_below K2_4.out hb); have K4_5 := Aside0.mk (blk_below K4_4.out hb); have K5_5 := Aside0.mk (blk_below K5_4.out hb); have K6_5 := Aside0.mk (blk_below K6_4.out hb); have HB5 := Aside0.mk (below_step HB4.out hb); clear hb K2_4 K4_4 K5_4 K6_4 HB4 cl_)
 have cl_ : w5.cell? ⟨g2, 0, none⟩ = some (.slice A0 l.length c0) := (blk_cell K2_5.out 0).trans rfl
 have p1 : (0 ≤ (gn : Int)) = True := eq_true (by omega)
 go_upto_region 5 with (fail)
 go_wp2_with (go_at_call 70; refine ((callsIn_wide (n := 5)).1 (hashed_in Fence.wide 5 trivial rfl (gn : Int) (l.length : Int) w5)).mono ?_; rintro e w9 ⟨rfl, hw9⟩; have KF : Aside0 (w9.heap[w5.heap.size]? = some (.cells #[.int .i64 (gn : Int)] 3 (0, 0))) := ⟨by rw [hw9]; first | done | exact blk_alloc (blk_new w5 _) _⟩; have KN : Aside0 (w9.heap[w5.heap.size + 1]? = some (.cells #[.int .i64 (l.length : Int)] 3 (0, 0))) := ⟨by rw [hw9]; first | done | exact blk_new2 _ _ _⟩; have hb : Below w5.heap.size w5 w9 := (by rw [hw9]; first | done | exact below_alloc (below_alloc (Below.refl _ _) _) _); have K2_9 := Aside0.mk (blk_below K2_5.out hb); have K4_9 := Aside0.mk (blk_below K4_5.out hb); have K5_9 := Aside0.mk (blk_below K5_5.out hb); have K6_9 := Aside0.mk (blk_below K6_5.out hb); have HB9 := Aside0.mk (below_step HB5.out hb); clear hb hw9 K2_5 K4_5 K5_5 K6_5 HB5 cl_)
 obtain ⟨sF, hsF⟩ : ∃ s, w5.heap.size = s := ⟨_, rfl⟩
 rw [hsF] at KF KN ⊢
 clear hsF
 refine (wpIn_wide (n := 12)).1 ?_
 refine rangeO (gf := 80) (lb := #[.pointer (some ⟨sF + 1, 0, none⟩), .pointer (some ⟨sF, 0, none⟩)]) rfl (enters_of Try.func80 (by kernel_rfl) rfl)
  (hash_stops 11 (sF + 1) sF gn l.length (by omega) (by omega) (by omega) w9 KN.out KF.out) (Below.refl _ _) (fun _ => rfl)
  (fun pre W => (∀ z ∈ pre, (rd_T42 l z.1).f3 = 0) ∧ Below w9.heap.size w9 W)
  (fun pre W => ∃ (p : List (Rng l.length)) (x : Rng l.length), pre = p ++ [x] ∧ (∀ t ∈ p, (rd_T42 l t.1).f3 = 0) ∧ (rd_T42 l x.1).f3 ≠ 0 ∧ (∃ v, W.heap[g4]? = some (.cells #[v] 22 (0, 0)) ∧ W.heap[g5]? = some (.cells #[.int .i64 x.1, .int .i64 (mex (rd_T42 l x.1).f6 : Int)] 24 (0, 0)) ∧ W.heap[g6]? = some (.cells #[.int .i64 0] 26 (0, 0)) ∧ Kd.S k42 42 W w.heap.size (fun _ => True) v (l.set (x.1 : Int).toNat (firstC (rd_T42 l x.1))) ∧ Below w.heap.size w W))
  (OwnFrom.and (ownFrom_pure _ _) (ownFrom_below (Nat.le_refl _) (Nat.le_refl _)))
  (fun s A B row hs hg hr => by
   obtain ⟨p, x, h1, h2, h3, v, h4, h5, h6, h7, h8⟩ := hs
   exact ⟨p, x, h1, h2, h3, v, ownF_blk w9.heap.size g4 22 (fun (_ : Unit) => #[v]) () A B row h4 hg hr, ownF_blk w9.heap.size g5 24 (fun (_ : Unit) => #[.int .i64 x.1, .int .i64 (mex (rd_T42 l x.1).f6 : Int)]) () A B row h5 hg hr, ownF_blk w9.heap.size g6 26 (fun (_ : Unit) => #[.int .i64 0]) () A B row h6 hg hr, ownF_S w9.heap.size w.heap.size _ (fun (_ : Unit) => l.set (x.1 : Int).toNat (firstC (rd_T42 l x.1))) () A B row h7 hg hr, ownFrom_below (Nat.le_refl _) HB9.out.size () A B row h8 hg hr⟩)
  ⟨by simp, Below.refl _ _⟩
  (fun x => { tmps := #[.slice A0 l.length c0, .int .i64 (gn : Int), .pointer (some ⟨g2, 0, none⟩), undef, .pointer (some ⟨g4, 0, none⟩), .pointer (some ⟨g5, 0, none⟩), .pointer (some ⟨g6, 0, none⟩), .int .i64 x.1, undef, undef, undef, .bool false, .slice A0 l.length c0, .bool true, .bool false, undef, .bool false, .int .i64 (gn : Int), .bool false, .bool false, .int .i64 (gn : Int), .slice A0 l.length c0, .int .i64 (l.length : Int), .bool false, .bool false, undef, .int .i64 (gn : Int), .slice A0 l.length c0, .int .i64 (l.length : Int), .func (.func 80) #[] #[.pointer (some ⟨sF + 1, 0, none⟩), .pointer (some ⟨sF, 0, none⟩)], .int .i64 x.1, undef, undef, undef, undef, undef, undef, undef, undef, undef, undef, undef], defers := [] }) ?assign ?body ?done ?stop
 case assign =>
  intro m lr x W K hK
  gi_wp2
  exact hK
 case body =>
  intro m lr pre x W hl hIW hsz hlt
  obtain ⟨hfull, hB⟩ := hIW
  obtain ⟨x, hx0, hx1⟩ := x
  obtain ⟨xn, rfl⟩ := Int.eq_ofNat_of_zero_le hx0
  have hxl : xn < l.length := by omega
  by_cases hz : (rd_T42 l (xn : Int)).f3 = 0
  ·have hfi : cyl_first.f l (xn : Int) = some ([], 0, 0, false) := by
    have h_ : cyl_first.f l (xn : Int) = some (firstS l (xn : Int)) := if_pos ⟨HWB.out, by omega, by omega⟩
    rw [h_]
    unfold firstS
    rw [if_pos hz]
   have hcal := fun W_ hC_ => cyl_first.calls A0 c0 l (xn : Int) [] 0 0 false W_ hC_ HCC.out hfi
   have HFULL := Aside0.mk hfull
   have HBW := Aside0.mk hB
   have HZ := Aside0.mk hz
   have HXL := Aside0.mk hxl
   have HSZ := Aside0.mk hsz
   have K2_W := Aside0.mk (blk_below K2_9.out hB)
   have K4_W := Aside0.mk (blk_below K4_9.out hB)
   have K5_W := Aside0.mk (blk_below K5_9.out hB)
   have K6_W := Aside0.mk (blk_below K6_9.out hB)
   have cl_ : W.cell? ⟨g2, 0, none⟩ = some (.slice A0 l.length c0) := (blk_cell K2_W.out 0).trans rfl
   have hCW := Kd.C_below HC.out (HB9.out.trans (HBW.out.mono HB9.out.size))
   clear hfull hB hz hfi hlt hsz hl
   gi_wp2_with (first | ((with_reducible refine gateIn_dst (N := 9) rfl ?_); refine box_in rfl (fun _ h => by cases h) (cs := #[.int .i64 0, .int .i64 0]) (t := 24) ?hrwb ?_; (case hrwb => first | (go_simp; done) | (go_simp; rfl)); intro g9 hg wb hbox hb hk; have K9_b := Aside0.mk hbox; have HB_b : Aside0 (Below W.heap.size W wb) := ⟨HB_a.out.trans (hb.mono HB_a.out.size)⟩; have HKF_b := Aside0.mk (HKF_a.out.trans (hk.from w9.heap.size)); have P9 := Aside0.mk (show W.heap.size ≤ g9 by rw [hg]; exact HB_a.out.size); have HS_b := Aside0.mk (Kd.S_below HS_a.out hb); have K2_b := Aside0.mk (blk_below K2_a.out hb); have K4_b := Aside0.mk (blk_below K4_a.out hb); have K5_b := Aside0.mk (blk_below K5_a.out hb); have K6_b := Aside0.mk (blk_below K6_a.out hb); obtain ⟨r0, r1, z0, z1⟩ := cf2 K9_b; clear HB_a HKF_a HS_a K2_a K4_a K5_a K6_a; clear hb hbox hg hk) | (refine ⟨trivial, fun h => (by cases h), (CallsIn.inRound lr (callsIn_wide.2 (hcal W hCW))).mono ?_⟩; rintro e wa ⟨vv, rfl, hS, hb⟩; have HS_a := Aside0.mk hS; have HB_a := Aside0.mk hb; have HKF_a := Aside0.mk (keeps_below (B := w9.heap.size) hb); have K2_a := Aside0.mk (blk_below K2_W.out hb); have K4_a := Aside0.mk (blk_below K4_W.out hb); have K5_a := Aside0.mk (blk_below K5_W.out hb); have K6_a := Aside0.mk (blk_below K6_W.out hb); clear hS hb hcal hCW cl_))
   obtain ⟨wc, hw⟩ : ∃ wc, ((wb.setCell ⟨g9, 0, none⟩ (.int .i64 0)).setCell ⟨g9, 1, none⟩ (.int .i64 0)) = wc := ⟨_, rfl⟩
   rw [hw]
   have N92 : Aside0 (g2 ≠ g9) := ⟨fun e => by have := blk_lt K2_W.out; have := P9.out; omega⟩
   have N94 : Aside0 (g4 ≠ g9) := ⟨fun e => by have := blk_lt K4_W.out; have := P9.out; omega⟩
   have N95 : Aside0 (g5 ≠ g9) := ⟨fun e => by have := blk_lt K5_W.out; have := P9.out; omega⟩
   have N96 : Aside0 (g6 ≠ g9) := ⟨fun e => by have := blk_lt K6_W.out; have := P9.out; omega⟩
   have K9_c : Aside0 (wc.heap[g9]? = some (.cells #[.int .i64 0, .int .i64 0] 24 (0, 0))) := ⟨by rw [← hw]; exact blk_put2 K9_b.out rfl _ _⟩; have HB_c : Aside0 (Below W.heap.size W wc) := ⟨by rw [← hw]; exact (HB_b.out.setCell (p := ⟨g9, 0, none⟩) P9.out _).setCell (p := ⟨g9, 1, none⟩) P9.out _⟩; have HKF_c : Aside0 (KeepsFrom w9.heap.size W wc) := ⟨by rw [← hw]; exact HKF_b.out.trans (((KeepsOthers.setCell _ _ _).trans (KeepsOthers.setCell _ _ _)).from _)⟩; have K2_c : Aside0 (wc.heap[g2]? = some (.cells #[.slice A0 l.length c0] 22 (0, 0))) := ⟨by rw [← hw]; exact blk_far (blk_far K2_b.out (p := ⟨g9, 0, none⟩) N92.out _) (p := ⟨g9, 1, none⟩) N92.out _⟩; have K4_c : Aside0 (wc.heap[g4]? = some (.cells #[.slice none 0 0] 22 (0, 0))) := ⟨by rw [← hw]; exact blk_far (blk_far K4_b.out (p := ⟨g9, 0, none⟩) N94.out _) (p := ⟨g9, 1, none⟩) N94.out _⟩; have K5_c : Aside0 (wc.heap[g5]? = some (.cells #[.int .i64 0, .int .i64 0] 24 (0, 0))) := ⟨by rw [← hw]; exact blk_far (blk_far K5_b.out (p := ⟨g9, 0, none⟩) N95.out _) (p := ⟨g9, 1, none⟩) N95.out _⟩; have K6_c : Aside0 (wc.heap[g6]? = some (.cells #[.int .i64 0] 26 (0, 0))) := ⟨by rw [← hw]; exact blk_far (blk_far K6_b.out (p := ⟨g9, 0, none⟩) N96.out _) (p := ⟨g9, 1, none⟩) N96.out _⟩; clear r0 r1 z0 z1 HB_b HKF_b HS_b K9_b K2_b K4_b K5_b K6_b
   clear hw
   exact ⟨HB_c.out, fun z hz_ => by
    rcases List.mem_append.1 hz_ with h_ | h_
    ·exact HFULL.out z h_
    ·obtain rfl := List.mem_singleton.1 h_
     exact HZ.out, HBW.out.trans (HB_c.out.mono HBW.out.size)⟩
  ·have hfi : cyl_first.f l (xn : Int) = some ((l.set (xn : Int).toNat (firstC (rd_T42 l (xn : Int)))), (xn : Int), (mex (rd_T42 l (xn : Int)).f6 : Int), true) := by
    have h_ : cyl_first.f l (xn : Int) = some (firstS l (xn : Int)) := if_pos ⟨HWB.out, by omega, by omega⟩
    rw [h_]
    unfold firstS
    rw [if_neg hz]
   obtain ⟨mx_, hmx⟩ : ∃ z : Int, (mex (rd_T42 l (xn : Int)).f6 : Int) = z := ⟨_, rfl⟩
   obtain ⟨LS, hLS⟩ : ∃ z, l.set (xn : Int).toNat (firstC (rd_T42 l (xn : Int))) = z := ⟨_, rfl⟩
   rw [hmx, hLS] at hfi
   have HMX := Aside0.mk hmx
   have HLS := Aside0.mk hLS
   have HLSL : Aside0 (0 < LS.length) := ⟨by rw [← HLS.out, List.length_set]; omega⟩
   have hcal := fun W_ hC_ => cyl_first.calls A0 c0 l (xn : Int) LS (xn : Int) mx_ true W_ hC_ HCC.out hfi
   have HFULL := Aside0.mk hfull
   have HBW := Aside0.mk hB
   have HZ := Aside0.mk hz
   have HXL := Aside0.mk hxl
   have HSZ := Aside0.mk hsz
   have K2_W := Aside0.mk (blk_below K2_9.out hB)
   have K4_W := Aside0.mk (blk_below K4_9.out hB)
   have K5_W := Aside0.mk (blk_below K5_9.out hB)
   have K6_W := Aside0.mk (blk_below K6_9.out hB)
   have cl_ : W.cell? ⟨g2, 0, none⟩ = some (.slice A0 l.length c0) := (blk_cell K2_W.out 0).trans rfl
   have hCW := Kd.C_below HC.out (HB9.out.trans (HBW.out.mono HB9.out.size))
   clear hfull hB hz hfi hlt hsz hl hmx hLS
   gi_wp2_with (first | ((with_reducible refine gateIn_dst (N := 9) rfl ?_); refine box_in rfl (fun _ h => by cases h) (cs := #[.int .i64 0, .int .i64 0]) (t := 24) ?hrwb ?_; (case hrwb => first | (go_simp; done) | (go_simp; rfl)); intro g9 hg wb hbox hb hk; have K9_b := Aside0.mk hbox; have HB_b : Aside0 (Below W.heap.size W wb) := ⟨HB_a.out.trans (hb.mono HB_a.out.size)⟩; have HKF_b := Aside0.mk (HKF_a.out.trans (hk.from w9.heap.size)); have P9 := Aside0.mk (show W.heap.size ≤ g9 by rw [hg]; exact HB_a.out.size); have HS_b := Aside0.mk (Kd.S_below HS_a.out hb); have K2_b := Aside0.mk (blk_below K2_a.out hb); have K4_b := Aside0.mk (blk_below K4_a.out hb); have K5_b := Aside0.mk (blk_below K5_a.out hb); have K6_b := Aside0.mk (blk_below K6_a.out hb); obtain ⟨r0, r1, z0, z1⟩ := cf2 K9_b; clear HB_a HKF_a HS_a K2_a K4_a K5_a K6_a; clear hb hbox hg hk) | (refine ⟨trivial, fun h => (by cases h), (CallsIn.inRound lr (callsIn_wide.2 (hcal W hCW))).mono ?_⟩; rintro e wa ⟨vv, rfl, hS, hb⟩; obtain ⟨go, co, rfl, _, _, _⟩ := Kd.S_form hS (by have := HLSL.out; omega); have HS_a := Aside0.mk hS; have HB_a := Aside0.mk hb; have HKF_a := Aside0.mk (keeps_below (B := w9.heap.size) hb); have K2_a := Aside0.mk (blk_below K2_W.out hb); have K4_a := Aside0.mk (blk_below K4_W.out hb); have K5_a := Aside0.mk (blk_below K5_W.out hb); have K6_a := Aside0.mk (blk_below K6_W.out hb); clear hS hb hcal hCW cl_))
   obtain ⟨wc, hw⟩ : ∃ wc, ((wb.setCell ⟨g9, 0, none⟩ (.int .i64 (xn : Int))).setCell ⟨g9, 1, none⟩ (.int .i64 mx_)) = wc := ⟨_, rfl⟩
   rw [hw]
   have N92 : Aside0 (g2 ≠ g9) := ⟨fun e => by have := blk_lt K2_W.out; have := P9.out; omega⟩
   have N94 : Aside0 (g4 ≠ g9) := ⟨fun e => by have := blk_lt K4_W.out; have := P9.out; omega⟩
   have N95 : Aside0 (g5 ≠ g9) := ⟨fun e => by have := blk_lt K5_W.out; have := P9.out; omega⟩
   have N96 : Aside0 (g6 ≠ g9) := ⟨fun e => by have := blk_lt K6_W.out; have := P9.out; omega⟩
   have K9_c : Aside0 (wc.heap[g9]? = some (.cells #[.int .i64 (xn : Int), .int .i64 mx_] 24 (0, 0))) := ⟨by rw [← hw]; exact blk_put2 K9_b.out rfl _ _⟩; have HB_c : Aside0 (Below W.heap.size W wc) := ⟨by rw [← hw]; exact (HB_b.out.setCell (p := ⟨g9, 0, none⟩) P9.out _).setCell (p := ⟨g9, 1, none⟩) P9.out _⟩; have HKF_c : Aside0 (KeepsFrom w9.heap.size W wc) := ⟨by rw [← hw]; exact HKF_b.out.trans (((KeepsOthers.setCell _ _ _).trans (KeepsOthers.setCell _ _ _)).from _)⟩; have HS_c : Aside0 (Kd.S k42 42 wc W.heap.size (fun _ => True) (.slice (some ⟨go, 0, none⟩) LS.length co) LS) := ⟨by rw [← hw]; exact Kd.S_mono (Kd.S_far (Kd.S_far (Kd.S_types HS_b.out K9_b.out (by decide)) (p := ⟨g9, 0, none⟩) (fun k hk => hk.2) _) (p := ⟨g9, 1, none⟩) (fun k hk => hk.2) _) (fun _ _ => trivial)⟩; have K2_c : Aside0 (wc.heap[g2]? = some (.cells #[.slice A0 l.length c0] 22 (0, 0))) := ⟨by rw [← hw]; exact blk_far (blk_far K2_b.out (p := ⟨g9, 0, none⟩) N92.out _) (p := ⟨g9, 1, none⟩) N92.out _⟩; have K4_c : Aside0 (wc.heap[g4]? = some (.cells #[.slice none 0 0] 22 (0, 0))) := ⟨by rw [← hw]; exact blk_far (blk_far K4_b.out (p := ⟨g9, 0, none⟩) N94.out _) (p := ⟨g9, 1, none⟩) N94.out _⟩; have K5_c : Aside0 (wc.heap[g5]? = some (.cells #[.int .i64 0, .int .i64 0] 24 (0, 0))) := ⟨by rw [← hw]; exact blk_far (blk_far K5_b.out (p := ⟨g9, 0, none⟩) N95.out _) (p := ⟨g9, 1, none⟩) N95.out _⟩; have K6_c : Aside0 (wc.heap[g6]? = some (.cells #[.int .i64 0] 26 (0, 0))) := ⟨by rw [← hw]; exact blk_far (blk_far K6_b.out (p := ⟨g9, 0, none⟩) N96.out _) (p := ⟨g9, 1, none⟩) N96.out _⟩; clear r0 r1 z0 z1 HB_b HKF_b HS_b K9_b K2_b K4_b K5_b K6_b
   clear hw
   obtain ⟨s0, s1⟩ := c2 K9_c
   have k4_ : wc.cell? ⟨g4, 0, none⟩ = some (.slice none 0 0) := (blk_cell K4_c.out 0).trans rfl
   have f4_ := blk_frozen K4_c.out 0
   have k5_ : wc.cell? ⟨g5, 0, none⟩ = some (.int .i64 0) := (blk_cell K5_c.out 0).trans rfl
   have f5_ := blk_frozen K5_c.out 0
   have k5a_ : wc.cell? ⟨g5, 1, none⟩ = some (.int .i64 0) := (blk_cell K5_c.out 1).trans rfl
   have f5a_ := blk_frozen K5_c.out 1
   have k6_ : wc.cell? ⟨g6, 0, none⟩ = some (.int .i64 0) := (blk_cell K6_c.out 0).trans rfl
   have f6_ := blk_frozen K6_c.out 0
   have n45 := D45.out
   have n46 := D46.out
   have n56 := D56.out
   have n54 := D45.out.symm
   have n64 := D46.out.symm
   have n65 := D56.out.symm
   refine Rnd.start_in (lr := lr) (k := 5) (S := fun w' => w'.cell? ⟨g9, 0, none⟩ = some (.int .i64 (xn : Int)) ∧ w'.cell? ⟨g9, 1, none⟩ = some (.int .i64 mx_)) (ds := [3, 4]) #[false, false, false, false, false] (by kernel_rfl) (by kernel_rfl) rfl rfl ⟨s0, s1⟩ (fun hHeld => ?_); refine with_tabW fl_tab9 fl_bits9 (fun HT_ HW_ => ?_)
   refine pure_ (i := 0) (N := some 39) (v := ?_) (a' := ?_) #[true, false, false, false, false] rfl rfl (any_of HT_.out (by kernel_rfl)) (fun _ _ _ h => h) (Or.inl ⟨by rfl, ?_⟩) ?_ ?_
   rotate_left
   ·intro w'
    go_simp
    with_reducible rfl
   rotate_left
   ·go_simp
    rfl
   refine take_ (i := 1) (N := some 40) (v := ?_) (a' := ?_) #[true, true, false, false, false] rfl rfl (take_ofW HT_.out HW_.out (by kernel_rfl)) (fun _ _ _ h => h) (Or.inl ⟨by rfl, ?_⟩) hHeld ?_ ?_
   rotate_left
   ·rintro w' ⟨s0, s1⟩
    go_simp
    with_reducible rfl
   rotate_left
   ·go_simp
    rfl
   refine one_ (i := 2) (N := none) #[true, true, true, false, false] rfl rfl (one_of HT_.out (by kernel_rfl)) (by decide) (fun K hK => ?_)
   refine skip_ (w1 := ?_) (by rfl) rfl ?_ ?_
   rotate_left
   ·go_simp
    rfl
   refine hK.out _ _ ⟨(blk_cell (blk_drew (blk_far K9_c.out (p := ⟨g4, 0, none⟩) (fun e => N94.out e.symm) _)) 0).trans rfl, (blk_cell (blk_drew (blk_far K9_c.out (p := ⟨g4, 0, none⟩) (fun e => N94.out e.symm) _)) 1).trans rfl⟩ (fun hHeld => ?_)
   clear hK K
   refine last_ (i := 3) (N := none) #[true, true, true, true, false] rfl rfl (one_of HT_.out (by kernel_rfl)) (by decide) (fun K hK => ?_)
   refine skip_ (w1 := ?_) (by rfl) rfl ?_ ?_
   rotate_left
   ·go_simp
    rfl
   refine hK.out _ _ ?_
   clear hK K
   refine last_ (i := 4) (N := none) #[true, true, true, true, true] rfl rfl (one_of HT_.out (by kernel_rfl)) (by decide) (fun K hK => ?_)
   refine skipE_ (w1 := ((((wc.drew.setCell ⟨g4, 0, none⟩ (.slice (some ⟨go, 0, none⟩) LS.length co)).setCell ⟨g5, 0, none⟩ (.int .i64 (xn : Int))).setCell ⟨g5, 1, none⟩ (.int .i64 mx_)).setCell ⟨g6, 0, none⟩ (.int .i64 0))) (by rfl) rfl (by first | (go_simp; done) | (go_simp; rfl)) (fun wd hw => ?_)
   have K4_6 : Aside0 (wd.heap[g4]? = some (.cells #[.slice (some ⟨go, 0, none⟩) LS.length co] 22 (0, 0))) := ⟨by rw [hw]; exact blk_far (blk_far (blk_far (blk_put (blk_drew K4_c.out) 0 (.slice (some ⟨go, 0, none⟩) LS.length co) rfl) (p := ⟨g5, 0, none⟩) D45.out _) (p := ⟨g5, 1, none⟩) D45.out _) (p := ⟨g6, 0, none⟩) D46.out _⟩
   have K5_6 : Aside0 (wd.heap[g5]? = some (.cells #[.int .i64 (xn : Int), .int .i64 mx_] 24 (0, 0))) := ⟨by rw [hw]; exact blk_far (blk_put2 (blk_far (blk_drew K5_c.out) (p := ⟨g4, 0, none⟩) (fun e => D45.out e.symm) _) rfl _ _) (p := ⟨g6, 0, none⟩) D56.out _⟩
   have K6_6 : Aside0 (wd.heap[g6]? = some (.cells #[.int .i64 0] 26 (0, 0))) := ⟨by rw [hw]; exact blk_put (blk_far (blk_far (blk_far (blk_drew K6_c.out) (p := ⟨g4, 0, none⟩) (fun e => D46.out e.symm) _) (p := ⟨g5, 0, none⟩) (fun e => D56.out e.symm) _) (p := ⟨g5, 1, none⟩) (fun e => D56.out e.symm) _) 0 _ rfl⟩
   have HS_d : Aside0 (Kd.S k42 42 wd w.heap.size (fun _ => True) (.slice (some ⟨go, 0, none⟩) LS.length co) LS) := ⟨by rw [hw]; exact Kd.S_lower (Kd.S_mono (Kd.S_far (Kd.S_far (Kd.S_far (Kd.S_far (Kd.S_drew (Kd.S_types (Kd.S_types (Kd.S_types HS_c.out K4_c.out (by decide)) K5_c.out (by decide)) K6_c.out (by decide))) (p := ⟨g4, 0, none⟩) (fun k hk => hk.1.1.2) _) (p := ⟨g5, 0, none⟩) (fun k hk => hk.1.2) _) (p := ⟨g5, 1, none⟩) (fun k hk => hk.1.2) _) (p := ⟨g6, 0, none⟩) (fun k hk => hk.2) _) (fun _ _ => trivial)) (Nat.le_trans HB9.out.size HBW.out.size)⟩
   have HB_d : Aside0 (Below w.heap.size w wd) := ⟨by rw [hw]; exact ((((below_drew (HB9.out.trans ((HBW.out.mono HB9.out.size).trans (HB_c.out.mono (Nat.le_trans HB9.out.size HBW.out.size))))).setCell (p := ⟨g4, 0, none⟩) P4.out _).setCell (p := ⟨g5, 0, none⟩) P5.out _).setCell (p := ⟨g5, 1, none⟩) P5.out _).setCell (p := ⟨g6, 0, none⟩) P6.out _⟩
   have HKF_d : Aside0 (KeepsFrom w9.heap.size W wd) := ⟨by rw [hw]; exact HKF_c.out.trans (((((KeepsOthers.drew _).trans (KeepsOthers.setCell _ _ _)).trans (KeepsOthers.setCell _ _ _)).trans ((KeepsOthers.setCell _ _ _).trans (KeepsOthers.setCell _ _ _))).from _)⟩
   clear hw
   refine hK.out _ _ ?_
   clear hK K
   refine done_ (done_of HT_.out (by kernel_rfl)) ?_
   simp only [Rnd.shutQ]
   gi_wp2
   refine ⟨HKF_d.out, pre, ⟨(xn : Int), by omega, by have := HXL.out; omega⟩, rfl, HFULL.out, HZ.out, _, K4_6.out, ?_, K6_6.out, ?_, HB_d.out⟩
   ·rw [HMX.out]
    exact K5_6.out
   ·rw [HLS.out]
    exact HS_d.out
 case stop =>
  intro D pre W hD hpre hX hK
  obtain ⟨p, x, rfl, hp, hz, v, h4, h5, h6, hS, hB⟩ := hX
  gi_wp2
  refine ⟨by simp, .inl ⟨_, _, rfl, run_takeDeferred hK, ?_⟩⟩
  have hg := grownBy_putObj' W D (.deferred none)
  have hnD : ∀ {k : Nat} {cs : Array Value} {t : Nat}, W.heap[k]? = some (.cells cs t (0, 0)) → k ≠ D := fun h e => by subst e; rw [hK] at h; cases h
  have c4 : (W.putObj D (.deferred none)).cell? ⟨g4, 0, none⟩ = some v := (blk_cell ((hg.block g4 (blk_lt h4) (fun e => hnD h4 (Option.some.inj e))).trans h4) 0).trans rfl
  have c5 : (W.putObj D (.deferred none)).cell? ⟨g5, 0, none⟩ = some (.int .i64 x.1) := (blk_cell ((hg.block g5 (blk_lt h5) (fun e => hnD h5 (Option.some.inj e))).trans h5) 0).trans rfl
  have c5a : (W.putObj D (.deferred none)).cell? ⟨g5, 1, none⟩ = some (.int .i64 (mex (rd_T42 l x.1).f6 : Int)) := (blk_cell ((hg.block g5 (blk_lt h5) (fun e => hnD h5 (Option.some.inj e))).trans h5) 1).trans rfl
  have c6 : (W.putObj D (.deferred none)).cell? ⟨g6, 0, none⟩ = some (.int .i64 0) := (blk_cell ((hg.block g6 (blk_lt h6) (fun e => hnD h6 (Option.some.inj e))).trans h6) 0).trans rfl
  have hfs : (hashL gn l.length).find? (fun x => (rd_T42 l x).f3 != 0) = some x.1 := by
   obtain ⟨sfx, hsfx⟩ := hpre
   rw [← hsfx, List.map_append, List.append_assoc, List.find?_append, List.find?_eq_none.2 (fun t ht => by obtain ⟨s, hs, rfl⟩ := List.mem_map.1 ht; rw [hp s hs]; decide), Option.none_or]
   show List.find? _ (x.1 :: sfx) = _
   rw [List.find?_cons_of_pos (by simpa using hz)]
  have hT : fileS l (gn : Int) = (l.set x.1.toNat (firstC (rd_T42 l x.1)), x.1, (mex (rd_T42 l x.1).f6 : Int), 0) := by
   unfold fileS
   rw [HWB.out, if_neg (by decide), if_neg (by omega), Int.toNat_natCast, hfs]
  rw [hT]
  refine ⟨.tuple #[v, .agg #[.int .i64 x.1, .int .i64 (mex (rd_T42 l x.1).f6 : Int)], .int .i64 0], ?_, ⟨_, rfl, ?_, ?_⟩⟩
  ·obtain ⟨A4_, c4_, rfl⟩ := Kd.S_slice hS
   simp [results, Try.f40, go_sem, c4, c5, c5a, c6]
  ·exact Kd.S_mono (Kd.S_grown (Kd.S_bound hS) hg (fun k hk e => by obtain ⟨_, _, _, q, _, cs, hc⟩ := hk; exact hnD hc (Option.some.inj e))) (fun _ _ => trivial)
  ·exact hB.trans (belowK_b (Nat.le_refl _) W D _ _ (Nat.le_trans HB9.out.size hD) hK rfl rfl)
 case done =>
  intro D xs W hD hxs hIW hK
  obtain ⟨hq, hB⟩ := hIW
  have K4_5 := Aside0.mk (blk_below K4_9.out hB)
  have K5_5 := Aside0.mk (blk_below K5_9.out hB)
  have K6_5 := Aside0.mk (blk_below K6_9.out hB)
  have HK := Aside0.mk hK
  have HQ := Aside0.mk hq
  have HB := Aside0.mk hB
  have HXS := Aside0.mk hxs
  have HD := Aside0.mk hD
  have k4_ : W.cell? ⟨g4, 0, none⟩ = some (.slice none 0 0) := (blk_cell K4_5.out 0).trans rfl
  have f4_ := blk_frozen K4_5.out 0
  have k5_ : W.cell? ⟨g5, 0, none⟩ = some (.int .i64 0) := (blk_cell K5_5.out 0).trans rfl
  have f5_ := blk_frozen K5_5.out 0
  have k5a_ : W.cell? ⟨g5, 1, none⟩ = some (.int .i64 0) := (blk_cell K5_5.out 1).trans rfl
  have f5a_ := blk_frozen K5_5.out 1
  have k6_ : W.cell? ⟨g6, 0, none⟩ = some (.int .i64 0) := (blk_cell K6_5.out 0).trans rfl
  have f6_ := blk_frozen K6_5.out 0
  have n45 := D45.out
  have n46 := D46.out
  have n56 := D56.out
  have n54 := D45.out.symm
  have n64 := D46.out.symm
  have n65 := D56.out.symm
  clear hK hq hB hxs hD
  gi_wp2
  go_wp2

  obtain ⟨w6_, hw⟩ : ∃ w6_, ((((W.setCell ⟨g4, 0, none⟩ (.slice none 0 0)).setCell ⟨g5, 0, none⟩ (.int .i64 0)).setCell ⟨g5, 1, none⟩ (.int .i64 0)).setCell ⟨g6, 0, none⟩ (.int .i64 4)) = w6_ := ⟨_, rfl⟩
  rw [hw]
  have h4 : w6_.heap[g4]? = some (.cells #[.slice none 0 0] 22 (0, 0)) := by rw [← hw]; exact blk_far (blk_far (blk_far (blk_put K4_5.out 0 (.slice none 0 0) rfl) (p := ⟨g5, 0, none⟩) D45.out _) (p := ⟨g5, 1, none⟩) D45.out _) (p := ⟨g6, 0, none⟩) D46.out _
  have h5 : w6_.heap[g5]? = some (.cells #[.int .i64 0, .int .i64 0] 24 (0, 0)) := by rw [← hw]; exact blk_far (blk_put2 (blk_far K5_5.out (p := ⟨g4, 0, none⟩) (fun e => D45.out e.symm) _) rfl _ _) (p := ⟨g6, 0, none⟩) D56.out _
  have h6 : w6_.heap[g6]? = some (.cells #[.int .i64 4] 26 (0, 0)) := by rw [← hw]; exact blk_put (blk_far (blk_far (blk_far K6_5.out (p := ⟨g4, 0, none⟩) (fun e => D46.out e.symm) _) (p := ⟨g5, 0, none⟩) (fun e => D56.out e.symm) _) (p := ⟨g5, 1, none⟩) (fun e => D56.out e.symm) _) 0 _ rfl
  have HBW6 : Below w.heap.size w w6_ := by rw [← hw]; exact ((((HB9.out.trans (HB.out.mono HB9.out.size)).setCell (p := ⟨g4, 0, none⟩) P4.out _).setCell (p := ⟨g5, 0, none⟩) P5.out _).setCell (p := ⟨g5, 1, none⟩) P5.out _).setCell (p := ⟨g6, 0, none⟩) P6.out _
  have HK6 : w6_.heap[D]? = some (.deferred (some [])) := by rw [← hw]; exact (((KeepsOthers.setCell _ _ _).trans (KeepsOthers.setCell _ _ _)).trans ((KeepsOthers.setCell _ _ _).trans (KeepsOthers.setCell _ _ _))).same D _ HK.out rfl
  refine ⟨by simp, .inl ⟨_, _, rfl, run_takeDeferred HK6, ?_⟩⟩
  have hg := grownBy_putObj' w6_ D (.deferred none)
  have hnD : ∀ {k : Nat} {cs : Array Value} {t : Nat}, w6_.heap[k]? = some (.cells cs t (0, 0)) → k ≠ D := fun h e => by subst e; rw [HK6] at h; cases h
  have c4 : (w6_.putObj D (.deferred none)).cell? ⟨g4, 0, none⟩ = some (.slice none 0 0) := (blk_cell ((hg.block g4 (blk_lt h4) (fun e => hnD h4 (Option.some.inj e))).trans h4) 0).trans rfl
  have c5 : (w6_.putObj D (.deferred none)).cell? ⟨g5, 0, none⟩ = some (.int .i64 0) := (blk_cell ((hg.block g5 (blk_lt h5) (fun e => hnD h5 (Option.some.inj e))).trans h5) 0).trans rfl
  have c5a : (w6_.putObj D (.deferred none)).cell? ⟨g5, 1, none⟩ = some (.int .i64 0) := (blk_cell ((hg.block g5 (blk_lt h5) (fun e => hnD h5 (Option.some.inj e))).trans h5) 1).trans rfl
  have c6 : (w6_.putObj D (.deferred none)).cell? ⟨g6, 0, none⟩ = some (.int .i64 4) := (blk_cell ((hg.block g6 (blk_lt h6) (fun e => hnD h6 (Option.some.inj e))).trans h6) 0).trans rfl
  have hT : fileS l (gn : Int) = ([], 0, 0, 4) := by
   unfold fileS
   rw [HWB.out, if_neg (by decide), if_neg (by omega), Int.toNat_natCast, ← HXS.out, List.find?_eq_none.2 (fun t ht => by obtain ⟨s, hs, rfl⟩ := List.mem_map.1 ht; rw [HQ.out s hs]; decide)]
  rw [hT]
  refine ⟨.tuple #[.slice none 0 0, .agg #[.int .i64 0, .int .i64 0], .int .i64 4], ?_, ⟨_, rfl, ?_, ?_⟩⟩
  ·simp [results, Try.f40, go_sem, c4, c5, c5a, c6]
  ·exact Kd.S_nil _ _ _ _ _
  ·exact HBW6.trans (belowK_b (Nat.le_refl _) w6_ D _ _ (Nat.le_trans HB9.out.size HD.out) HK6 rfl rfl)
/-- What File answers, for groups that are not too many. -/
def cyl_File.f (l : List S42) (g : Int) : Option (List S42 × Int × Int × Int) := if SmallL l then some (fileS l g) else none
theorem cyl_File.calls (A0 : Option Addr) (c0 : Nat) (l0 : List S42) (a1 : Int) (r1 : List S42) (r2 r3 r4 : Int) (w : World) (hr0 : Kd.C k42 w A0 l0.length l0) (hc0 : l0.length ≤ c0) (h : cyl_File.f l0 a1 = some (r1, r2, r3, r4)) :
  Calls Try.prog 40 #[.slice A0 l0.length c0, .int .i64 a1] w fun e w' => ∃ v, e = .returned (.tuple #[v, .agg #[.int .i64 r2, .int .i64 r3], .int .i64 r4]) ∧ Kd.S k42 42 w' w.heap.size (fun _ => True) v r1 ∧ Below w.heap.size w w' := by
 unfold cyl_File.f at h
 by_cases hs : SmallL l0
 ·rw [if_pos hs] at h
  have h := Option.some.inj h
  have bad : ∀ e, fileS l0 a1 = ([], 0, 0, e) → Calls Try.prog 40 #[.slice A0 l0.length c0, .int .i64 a1] w (fun e' w' => e' = .returned (.tuple #[.slice none 0 0, .agg #[.int .i64 0, .int .i64 0], .int .i64 e]) ∧ Below w.heap.size w w') → Calls Try.prog 40 #[.slice A0 l0.length c0, .int .i64 a1] w fun e w' => ∃ v, e = .returned (.tuple #[v, .agg #[.int .i64 r2, .int .i64 r3], .int .i64 r4]) ∧ Kd.S k42 42 w' w.heap.size (fun _ => True) v r1 ∧ Below w.heap.size w w' := fun e hf hc => by
   rw [hf] at h
   obtain ⟨rfl, rfl, rfl, rfl⟩ : r1 = [] ∧ r2 = 0 ∧ r3 = 0 ∧ r4 = e := by injection h with h1 h2; injection h2 with h2 h3; injection h3 with h3 h4; exact ⟨h1.symm, h2.symm, h3.symm, h4.symm⟩
   exact hc.mono fun e w' ⟨he, hb⟩ => ⟨_, he, Kd.S_nil _ _ _ _ _, hb⟩
  cases hw : wholeB l0 with
  | false => exact bad 3 (by unfold fileS; rw [hw, if_pos rfl]) (file_wrong A0 c0 l0 a1 w hr0 hc0 hs hw)
  | true =>
   by_cases h1 : a1 < 0
   ·exact bad 2 (by unfold fileS; rw [hw, if_neg (by decide), if_pos (.inl h1)]) (file_low A0 c0 l0 a1 w hr0 hc0 hs hw h1)
   ·by_cases h2 : (l0.length : Int) ≤ a1
    ·exact bad 2 (by unfold fileS; rw [hw, if_neg (by decide), if_pos (.inr h2)]) (file_high A0 c0 l0 a1 w hr0 hc0 hs hw (by omega) h2)
    ·obtain ⟨gn, rfl⟩ := Int.eq_ofNat_of_zero_le (show 0 ≤ a1 by omega)
     have hf := file_ok A0 c0 l0 gn w hr0 hc0 hw (by omega)
     rw [h] at hf
     exact hf
 ·rw [if_neg hs] at h; cases h
end Go.Proofs.Ytehjmmedghcndaa.PG
