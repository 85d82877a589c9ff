import Derived.Test.YtehjmmedghcndaaCU
import Derived.Test.YtehjmmedghcndaaCV
import Derived.Test.YtehjmmedghcndaaPGx1
import Derived.Test.YtehjmmedghcndaaLT
/-! selvedgeref18.Take. -/
namespace Go.Proofs.Ytehjmmedghcndaa.PG
open Go.RowKit Go.Proofs.YtehjmmedghcndaaW.PrintWords Go.Proofs.YtehjmmedghcndaaW.PrintLast Go.Proofs.YtehjmmedghcndaaW.PrintMore
attribute [local go_sem] Oper.semAt_some
set_option maxHeartbeats 8000000 in
set_option maxRecDepth 100000 in
theorem rtake_wrong (A0 : Option Addr) (c0 : Nat) (l : List S42) (a b : Int) (w : World) (hC : Kd.C k42 w A0 l.length l) (hc0 : l.length ≤ c0) (hl : SmallL l) (hw : wholeB l = false) :
  Calls Try.prog 14 #[.slice A0 l.length c0, .agg #[.int .i64 a, .int .i64 b]] w fun e w' => e = .returned (.tuple #[.slice none 0 0, .agg #[.int .i64 0, .int .i64 0], .int .i64 3]) ∧ Below w.heap.size w w' := by
 have hwi := rwhole_is l hl 0
 rw [hw] at hwi
 have HC := Aside0.mk hC
 have HCC := Aside0.mk hc0
 have HWI := Aside0.mk hwi
 clear hwi hw hl hC hc0
 have hu42 := Try.underlying42
 have hu24 := Try.underlying24
 go_enter Try.func14, Try.ntmps14
 go_wp2_with (first | ((with_reducible refine gate_dst (N := 3) rfl ?_); refine box_event rfl (N := 3) rfl (cs := #[.int .i64 a, .int .i64 b]) (t := 24) (by first | (go_simp; done) | (go_simp; rfl)) ?_; intro g3 hg w1 hbox hb; have K3 := Aside0.mk hbox; have HB1 := Aside0.mk hb; have P3 := Aside0.mk (show w.heap.size ≤ g3 by omega); clear hb hbox hg) | ((with_reducible refine gate_dst (N := 5) rfl ?_); refine box_event rfl (N := 5) rfl (cs := #[.int .i64 0, .int .i64 0]) (t := 24) (by first | (go_simp; done) | (go_simp; rfl)) ?_; intro g5 hg w2 hbox hb; have K5 := Aside0.mk hbox; have K32 := Aside0.mk (blk_below K3.out hb); have P5 := Aside0.mk (show w.heap.size ≤ g5 by rw [hg]; exact HB1.out.size); have D35 := Aside0.mk (show g3 ≠ g5 by rw [hg]; have := blk_lt K3.out; omega); have HB2 := Aside0.mk (below_step HB1.out hb); clear K3 HB1; clear hb hbox hg) | (go_at_call 20; refine (selvedgeref18_Whole.calls _ A0 c0 l false w2 (Kd.C_below HC.out HB2.out) HCC.out HWI.out).mono ?_; rintro e w3 ⟨rfl, hb⟩; have K33 := Aside0.mk (blk_below K32.out hb); have K53 := Aside0.mk (blk_below K5.out hb); have HB3 := Aside0.mk (below_step HB2.out hb); clear hb K32 K5 HB2; have k5_ : w3.cell? ⟨g5, 0, none⟩ = some (.int .i64 0) := (blk_cell K53.out 0).trans rfl; have f5_ := blk_frozen K53.out 0; have k5a_ : w3.cell? ⟨g5, 1, none⟩ = some (.int .i64 0) := (blk_cell K53.out 1).trans rfl; have f5a_ := blk_frozen K53.out 1; have c0_ : w3.cell? ⟨g3, 0, none⟩ = some (.int .i64 a) := (blk_cell K33.out 0).trans rfl; have c1_ : w3.cell? ⟨g3, 1, none⟩ = some (.int .i64 b) := (blk_cell K33.out 1).trans rfl) | ((with_reducible refine gate_store (t := 24) (p := 5) rfl ?_); refine store_event (t := 24) (p := 5) (v := ?vo_w4) (w1 := ((w3.setCell ⟨g5, 0, none⟩ (.int .i64 0)).setCell ⟨g5, 1, none⟩ (.int .i64 0))) ?hg ?ho ?hn ?hr ?_; (case ho => rfl); (case hg => rfl); (case hn => rfl); (case hr => first | (go_simp; done) | (go_simp; rfl)); intro w4 hw; have HB4 : Below w.heap.size w w4 := (by rw [hw]; exact below_set (below_set HB3.out P5.out) P5.out); have K54 : w4.heap[g5]? = some (.cells #[.int .i64 0, .int .i64 0] 24 (0, 0)) := (by rw [hw]; exact blk_put2 K53.out rfl _ _); clear hw))
 have c5 : w4.cell? ⟨g5, 0, none⟩ = some (.int .i64 0) := (blk_cell K54 0).trans rfl
 have c5a : w4.cell? ⟨g5, 1, none⟩ = some (.int .i64 0) := (blk_cell K54 1).trans rfl
 refine ⟨rfl, .tuple #[.slice none 0 0, .agg #[.int .i64 0, .int .i64 0], .int .i64 3], ?_, rfl, HB4⟩
 simp [results, Try.f14, go_sem, c5, c5a]
set_option maxHeartbeats 8000000 in
set_option maxRecDepth 100000 in
theorem rtake_a0 (A0 : Option Addr) (c0 : Nat) (l : List S42) (a b : Int) (w : World) (hC : Kd.C k42 w A0 l.length l) (hc0 : l.length ≤ c0) (hl : SmallL l) (hw : wholeB l = true) (h1 : a < 0) :
  Calls Try.prog 14 #[.slice A0 l.length c0, .agg #[.int .i64 a, .int .i64 b]] w fun e w' => e = .returned (.tuple #[.slice none 0 0, .agg #[.int .i64 0, .int .i64 0], .int .i64 2]) ∧ Below w.heap.size w w' := by
 have hwi := rwhole_is l hl 0
 rw [hw] at hwi
 have HC := Aside0.mk hC
 have HCC := Aside0.mk hc0
 have HWI := Aside0.mk hwi
 have f1 : decide (a < 0) = true := decide_eq_true h1
 clear h1
 clear hwi hw hl hC hc0
 have hu42 := Try.underlying42
 have hu24 := Try.underlying24
 go_enter Try.func14, Try.ntmps14
 go_upto_region 3 with (first | ((with_reducible refine gate_dst (N := 3) rfl ?_); refine box_event rfl (N := 3) rfl (cs := #[.int .i64 a, .int .i64 b]) (t := 24) (by first | (go_simp; done) | (go_simp; rfl)) ?_; intro g3 hg w1 hbox hb; have K3 := Aside0.mk hbox; have HB1 := Aside0.mk hb; have P3 := Aside0.mk (show w.heap.size ≤ g3 by omega); clear hb hbox hg) | ((with_reducible refine gate_dst (N := 5) rfl ?_); refine box_event rfl (N := 5) rfl (cs := #[.int .i64 0, .int .i64 0]) (t := 24) (by first | (go_simp; done) | (go_simp; rfl)) ?_; intro g5 hg w2 hbox hb; have K5 := Aside0.mk hbox; have K32 := Aside0.mk (blk_below K3.out hb); have P5 := Aside0.mk (show w.heap.size ≤ g5 by rw [hg]; exact HB1.out.size); have D35 := Aside0.mk (show g3 ≠ g5 by rw [hg]; have := blk_lt K3.out; omega); have HB2 := Aside0.mk (below_step HB1.out hb); clear K3 HB1; clear hb hbox hg) | (go_at_call 20; refine (selvedgeref18_Whole.calls _ A0 c0 l true w2 (Kd.C_below HC.out HB2.out) HCC.out HWI.out).mono ?_; rintro e w3 ⟨rfl, hb⟩; have K33 := Aside0.mk (blk_below K32.out hb); have K53 := Aside0.mk (blk_below K5.out hb); have HB3 := Aside0.mk (below_step HB2.out hb); clear hb K32 K5 HB2; have k5_ : w3.cell? ⟨g5, 0, none⟩ = some (.int .i64 0) := (blk_cell K53.out 0).trans rfl; have f5_ := blk_frozen K53.out 0; have k5a_ : w3.cell? ⟨g5, 1, none⟩ = some (.int .i64 0) := (blk_cell K53.out 1).trans rfl; have f5a_ := blk_frozen K53.out 1; have c0_ : w3.cell? ⟨g3, 0, none⟩ = some (.int .i64 a) := (blk_cell K33.out 0).trans rfl; have c1_ : w3.cell? ⟨g3, 1, none⟩ = some (.int .i64 b) := (blk_cell K33.out 1).trans rfl))
 go_quiet (fail)
 go_wp2
 obtain ⟨w4, hw⟩ : ∃ w4, ((w3.drewN nq).setCell ⟨g5, 0, none⟩ (.int .i64 0)).setCell ⟨g5, 1, none⟩ (.int .i64 0) = w4 := ⟨_, rfl⟩
 rw [hw]
 have HB4 : Below w.heap.size w w4 := by rw [← hw]; exact below_set (below_set (pw_below_drewN HB3.out nq) P5.out) P5.out
 have K54 : w4.heap[g5]? = some (.cells #[.int .i64 0, .int .i64 0] 24 (0, 0)) := by rw [← hw]; exact blk_put2 (blk_below K53.out (pw_below_drewN (Below.refl _ _) nq)) rfl _ _
 have c5 : w4.cell? ⟨g5, 0, none⟩ = some (.int .i64 0) := (blk_cell K54 0).trans rfl
 have c5a : w4.cell? ⟨g5, 1, none⟩ = some (.int .i64 0) := (blk_cell K54 1).trans rfl
 refine ⟨rfl, .tuple #[.slice none 0 0, .agg #[.int .i64 0, .int .i64 0], .int .i64 2], ?_, rfl, HB4⟩
 simp [results, Try.f14, go_sem, c5, c5a]
set_option maxHeartbeats 8000000 in
set_option maxRecDepth 100000 in
theorem rtake_a1 (A0 : Option Addr) (c0 : Nat) (l : List S42) (a b : Int) (w : World) (hC : Kd.C k42 w A0 l.length l) (hc0 : l.length ≤ c0) (hl : SmallL l) (hw : wholeB l = true) (h1 : 0 ≤ a) (h2 : (l.length : Int) ≤ a) :
  Calls Try.prog 14 #[.slice A0 l.length c0, .agg #[.int .i64 a, .int .i64 b]] w fun e w' => e = .returned (.tuple #[.slice none 0 0, .agg #[.int .i64 0, .int .i64 0], .int .i64 2]) ∧ Below w.heap.size w w' := by
 have hwi := rwhole_is l hl 0
 rw [hw] at hwi
 have HC := Aside0.mk hC
 have HCC := Aside0.mk hc0
 have HWI := Aside0.mk hwi
 have f1 : decide (a < 0) = false := decide_eq_false (by omega)
 have f2 : decide ((l.length : Int) ≤ a) = true := decide_eq_true h2
 clear h1 h2
 clear hwi hw hl hC hc0
 have hu42 := Try.underlying42
 have hu24 := Try.underlying24
 go_enter Try.func14, Try.ntmps14
 go_upto_region 3 with (first | ((with_reducible refine gate_dst (N := 3) rfl ?_); refine box_event rfl (N := 3) rfl (cs := #[.int .i64 a, .int .i64 b]) (t := 24) (by first | (go_simp; done) | (go_simp; rfl)) ?_; intro g3 hg w1 hbox hb; have K3 := Aside0.mk hbox; have HB1 := Aside0.mk hb; have P3 := Aside0.mk (show w.heap.size ≤ g3 by omega); clear hb hbox hg) | ((with_reducible refine gate_dst (N := 5) rfl ?_); refine box_event rfl (N := 5) rfl (cs := #[.int .i64 0, .int .i64 0]) (t := 24) (by first | (go_simp; done) | (go_simp; rfl)) ?_; intro g5 hg w2 hbox hb; have K5 := Aside0.mk hbox; have K32 := Aside0.mk (blk_below K3.out hb); have P5 := Aside0.mk (show w.heap.size ≤ g5 by rw [hg]; exact HB1.out.size); have D35 := Aside0.mk (show g3 ≠ g5 by rw [hg]; have := blk_lt K3.out; omega); have HB2 := Aside0.mk (below_step HB1.out hb); clear K3 HB1; clear hb hbox hg) | (go_at_call 20; refine (selvedgeref18_Whole.calls _ A0 c0 l true w2 (Kd.C_below HC.out HB2.out) HCC.out HWI.out).mono ?_; rintro e w3 ⟨rfl, hb⟩; have K33 := Aside0.mk (blk_below K32.out hb); have K53 := Aside0.mk (blk_below K5.out hb); have HB3 := Aside0.mk (below_step HB2.out hb); clear hb K32 K5 HB2; have k5_ : w3.cell? ⟨g5, 0, none⟩ = some (.int .i64 0) := (blk_cell K53.out 0).trans rfl; have f5_ := blk_frozen K53.out 0; have k5a_ : w3.cell? ⟨g5, 1, none⟩ = some (.int .i64 0) := (blk_cell K53.out 1).trans rfl; have f5a_ := blk_frozen K53.out 1; have c0_ : w3.cell? ⟨g3, 0, none⟩ = some (.int .i64 a) := (blk_cell K33.out 0).trans rfl; have c1_ : w3.cell? ⟨g3, 1, none⟩ = some (.int .i64 b) := (blk_cell K33.out 1).trans rfl))
 go_quiet (fail)
 go_wp2
 obtain ⟨w4, hw⟩ : ∃ w4, ((w3.drewN nq).setCell ⟨g5, 0, none⟩ (.int .i64 0)).setCell ⟨g5, 1, none⟩ (.int .i64 0) = w4 := ⟨_, rfl⟩
 rw [hw]
 have HB4 : Below w.heap.size w w4 := by rw [← hw]; exact below_set (below_set (pw_below_drewN HB3.out nq) P5.out) P5.out
 have K54 : w4.heap[g5]? = some (.cells #[.int .i64 0, .int .i64 0] 24 (0, 0)) := by rw [← hw]; exact blk_put2 (blk_below K53.out (pw_below_drewN (Below.refl _ _) nq)) rfl _ _
 have c5 : w4.cell? ⟨g5, 0, none⟩ = some (.int .i64 0) := (blk_cell K54 0).trans rfl
 have c5a : w4.cell? ⟨g5, 1, none⟩ = some (.int .i64 0) := (blk_cell K54 1).trans rfl
 refine ⟨rfl, .tuple #[.slice none 0 0, .agg #[.int .i64 0, .int .i64 0], .int .i64 2], ?_, rfl, HB4⟩
 simp [results, Try.f14, go_sem, c5, c5a]
set_option maxHeartbeats 8000000 in
set_option maxRecDepth 100000 in
theorem rtake_b0 (A0 : Option Addr) (c0 : Nat) (l : List S42) (a b : Int) (w : World) (hC : Kd.C k42 w A0 l.length l) (hc0 : l.length ≤ c0) (hl : SmallL l) (hw : wholeB l = true) (h1 : 0 ≤ a) (h2 : a < (l.length : Int)) (h3 : b < 0) :
  Calls Try.prog 14 #[.slice A0 l.length c0, .agg #[.int .i64 a, .int .i64 b]] w fun e w' => e = .returned (.tuple #[.slice none 0 0, .agg #[.int .i64 0, .int .i64 0], .int .i64 2]) ∧ Below w.heap.size w w' := by
 have hwi := rwhole_is l hl 0
 rw [hw] at hwi
 have HC := Aside0.mk hC
 have HCC := Aside0.mk hc0
 have HWI := Aside0.mk hwi
 have f1 : decide (a < 0) = false := decide_eq_false (by omega)
 have f2 : decide ((l.length : Int) ≤ a) = false := decide_eq_false (by omega)
 have f3 : decide (b < 0) = true := decide_eq_true h3
 clear h1 h2 h3
 clear hwi hw hl hC hc0
 have hu42 := Try.underlying42
 have hu24 := Try.underlying24
 go_enter Try.func14, Try.ntmps14
 go_upto_region 3 with (first | ((with_reducible refine gate_dst (N := 3) rfl ?_); refine box_event rfl (N := 3) rfl (cs := #[.int .i64 a, .int .i64 b]) (t := 24) (by first | (go_simp; done) | (go_simp; rfl)) ?_; intro g3 hg w1 hbox hb; have K3 := Aside0.mk hbox; have HB1 := Aside0.mk hb; have P3 := Aside0.mk (show w.heap.size ≤ g3 by omega); clear hb hbox hg) | ((with_reducible refine gate_dst (N := 5) rfl ?_); refine box_event rfl (N := 5) rfl (cs := #[.int .i64 0, .int .i64 0]) (t := 24) (by first | (go_simp; done) | (go_simp; rfl)) ?_; intro g5 hg w2 hbox hb; have K5 := Aside0.mk hbox; have K32 := Aside0.mk (blk_below K3.out hb); have P5 := Aside0.mk (show w.heap.size ≤ g5 by rw [hg]; exact HB1.out.size); have D35 := Aside0.mk (show g3 ≠ g5 by rw [hg]; have := blk_lt K3.out; omega); have HB2 := Aside0.mk (below_step HB1.out hb); clear K3 HB1; clear hb hbox hg) | (go_at_call 20; refine (selvedgeref18_Whole.calls _ A0 c0 l true w2 (Kd.C_below HC.out HB2.out) HCC.out HWI.out).mono ?_; rintro e w3 ⟨rfl, hb⟩; have K33 := Aside0.mk (blk_below K32.out hb); have K53 := Aside0.mk (blk_below K5.out hb); have HB3 := Aside0.mk (below_step HB2.out hb); clear hb K32 K5 HB2; have k5_ : w3.cell? ⟨g5, 0, none⟩ = some (.int .i64 0) := (blk_cell K53.out 0).trans rfl; have f5_ := blk_frozen K53.out 0; have k5a_ : w3.cell? ⟨g5, 1, none⟩ = some (.int .i64 0) := (blk_cell K53.out 1).trans rfl; have f5a_ := blk_frozen K53.out 1; have c0_ : w3.cell? ⟨g3, 0, none⟩ = some (.int .i64 a) := (blk_cell K33.out 0).trans rfl; have c1_ : w3.cell? ⟨g3, 1, none⟩ = some (.int .i64 b) := (blk_cell K33.out 1).trans rfl))
 go_quiet (fail)
 go_wp2
 obtain ⟨w4, hw⟩ : ∃ w4, ((w3.drewN nq).setCell ⟨g5, 0, none⟩ (.int .i64 0)).setCell ⟨g5, 1, none⟩ (.int .i64 0) = w4 := ⟨_, rfl⟩
 rw [hw]
 have HB4 : Below w.heap.size w w4 := by rw [← hw]; exact below_set (below_set (pw_below_drewN HB3.out nq) P5.out) P5.out
 have K54 : w4.heap[g5]? = some (.cells #[.int .i64 0, .int .i64 0] 24 (0, 0)) := by rw [← hw]; exact blk_put2 (blk_below K53.out (pw_below_drewN (Below.refl _ _) nq)) rfl _ _
 have c5 : w4.cell? ⟨g5, 0, none⟩ = some (.int .i64 0) := (blk_cell K54 0).trans rfl
 have c5a : w4.cell? ⟨g5, 1, none⟩ = some (.int .i64 0) := (blk_cell K54 1).trans rfl
 refine ⟨rfl, .tuple #[.slice none 0 0, .agg #[.int .i64 0, .int .i64 0], .int .i64 2], ?_, rfl, HB4⟩
 simp [results, Try.f14, go_sem, c5, c5a]
set_option maxHeartbeats 8000000 in
set_option maxRecDepth 100000 in
theorem rtake_big (A0 : Option Addr) (c0 : Nat) (l : List S42) (a b : Int) (w : World) (hC : Kd.C k42 w A0 l.length l) (hc0 : l.length ≤ c0) (hl : SmallL l) (hw : wholeB l = true) (h1 : 0 ≤ a) (h2 : a < (l.length : Int)) (h3 : 0 ≤ b) (h4 : (rd_T42 l a).f1 ≤ b) :
  Calls Try.prog 14 #[.slice A0 l.length c0, .agg #[.int .i64 a, .int .i64 b]] w fun e w' => e = .returned (.tuple #[.slice none 0 0, .agg #[.int .i64 0, .int .i64 0], .int .i64 2]) ∧ Below w.heap.size w w' := by
 have hwi := rwhole_is l hl 0
 rw [hw] at hwi
 have HC := Aside0.mk hC
 have HCC := Aside0.mk hc0
 have HWI := Aside0.mk hwi
 have f1 : decide (a < 0) = false := decide_eq_false (by omega)
 have f2 : decide ((l.length : Int) ≤ a) = false := decide_eq_false (by omega)
 have f3 : decide (b < 0) = false := decide_eq_false (by omega)
 have f4 : decide ((rd_T42 l a).f1 ≤ b) = true := decide_eq_true h4
 have p1 : (0 ≤ a) = True := eq_true h1
 have q1 : (a < (l.length : Int)) = True := eq_true h2
 have hat := fun W (hb : Below w.heap.size w W) => at_T42 (Kd.C_below HC.out hb) a h1 h2
 obtain ⟨y, hy⟩ : ∃ y, rd_T42 l a = y := ⟨_, rfl⟩
 rw [hy] at f4
 rw [hy] at hat
 clear hy h1 h2 h3 h4
 clear hwi hw hl hC hc0
 have hu42 := Try.underlying42
 have hu24 := Try.underlying24
 go_enter Try.func14, Try.ntmps14
 go_upto_region 3 with (first | ((with_reducible refine gate_dst (N := 3) rfl ?_); refine box_event rfl (N := 3) rfl (cs := #[.int .i64 a, .int .i64 b]) (t := 24) (by first | (go_simp; done) | (go_simp; rfl)) ?_; intro g3 hg w1 hbox hb; have K3 := Aside0.mk hbox; have HB1 := Aside0.mk hb; have P3 := Aside0.mk (show w.heap.size ≤ g3 by omega); clear hb hbox hg) | ((with_reducible refine gate_dst (N := 5) rfl ?_); refine box_event rfl (N := 5) rfl (cs := #[.int .i64 0, .int .i64 0]) (t := 24) (by first | (go_simp; done) | (go_simp; rfl)) ?_; intro g5 hg w2 hbox hb; have K5 := Aside0.mk hbox; have K32 := Aside0.mk (blk_below K3.out hb); have P5 := Aside0.mk (show w.heap.size ≤ g5 by rw [hg]; exact HB1.out.size); have D35 := Aside0.mk (show g3 ≠ g5 by rw [hg]; have := blk_lt K3.out; omega); have HB2 := Aside0.mk (below_step HB1.out hb); clear K3 HB1; clear hb hbox hg) | (go_at_call 20; refine (selvedgeref18_Whole.calls _ A0 c0 l true w2 (Kd.C_below HC.out HB2.out) HCC.out HWI.out).mono ?_; rintro e w3 ⟨rfl, hb⟩; have K33 := Aside0.mk (blk_below K32.out hb); have K53 := Aside0.mk (blk_below K5.out hb); have HB3 := Aside0.mk (below_step HB2.out hb); clear hb K32 K5 HB2; obtain ⟨ad, A5, c5, A6, c6, rfl, y0, y1, y2, y3, y4, y5, y6, _, _, _, _⟩ := hat w3 HB3.out; clear hat; have k5_ : w3.cell? ⟨g5, 0, none⟩ = some (.int .i64 0) := (blk_cell K53.out 0).trans rfl; have f5_ := blk_frozen K53.out 0; have k5a_ : w3.cell? ⟨g5, 1, none⟩ = some (.int .i64 0) := (blk_cell K53.out 1).trans rfl; have f5a_ := blk_frozen K53.out 1; have c0_ : w3.cell? ⟨g3, 0, none⟩ = some (.int .i64 a) := (blk_cell K33.out 0).trans rfl; have c1_ : w3.cell? ⟨g3, 1, none⟩ = some (.int .i64 b) := (blk_cell K33.out 1).trans rfl))
 go_quiet (fail)
 go_wp2
 obtain ⟨w4, hw⟩ : ∃ w4, ((w3.drewN nq).setCell ⟨g5, 0, none⟩ (.int .i64 0)).setCell ⟨g5, 1, none⟩ (.int .i64 0) = w4 := ⟨_, rfl⟩
 rw [hw]
 have HB4 : Below w.heap.size w w4 := by rw [← hw]; exact below_set (below_set (pw_below_drewN HB3.out nq) P5.out) P5.out
 have K54 : w4.heap[g5]? = some (.cells #[.int .i64 0, .int .i64 0] 24 (0, 0)) := by rw [← hw]; exact blk_put2 (blk_below K53.out (pw_below_drewN (Below.refl _ _) nq)) rfl _ _
 have c5 : w4.cell? ⟨g5, 0, none⟩ = some (.int .i64 0) := (blk_cell K54 0).trans rfl
 have c5a : w4.cell? ⟨g5, 1, none⟩ = some (.int .i64 0) := (blk_cell K54 1).trans rfl
 refine ⟨rfl, .tuple #[.slice none 0 0, .agg #[.int .i64 0, .int .i64 0], .int .i64 2], ?_, rfl, HB4⟩
 simp [results, Try.f14, go_sem, c5, c5a]
theorem roundL_split (fr n i : Nat) (hi : i < n) : roundL fr n = (List.range i).map (fun t => (((fr + t) % n : Nat) : Int)) ++ (((fr + i) % n : Nat) : Int) :: (List.range (n - i - 1)).map (fun t => (((fr + (i + (t + 1))) % n : Nat) : Int)) := by
 unfold roundL
 rw [show List.range n = List.range (i + (n - i - 1 + 1)) from by rw [show i + (n - i - 1 + 1) = n by omega], List.range_add, List.map_append, List.range_succ_eq_map, List.map_cons, List.map_cons, List.map_map, List.map_map]
 rfl
theorem roundL_first {β : Type} (fr n i : Nat) (hi : i < n) (g : Int → Option β) (h0 : ∀ t, t < i → g (((fr + t) % n : Nat) : Int) = none) {v : β} (h1 : g (((fr + i) % n : Nat) : Int) = some v) : (roundL fr n).findSome? g = some v := by
 rw [roundL_split fr n i hi, List.findSome?_append, List.findSome?_eq_none_iff.2 (fun t ht => by obtain ⟨s, hs, rfl⟩ := List.mem_map.1 ht; exact h0 s (List.mem_range.1 hs)), Option.none_or, List.findSome?_cons, h1]
theorem roundL_find (fr n i : Nat) (hi : i < n) (p : Int → Bool) (h0 : ∀ t, t < i → p (((fr + t) % n : Nat) : Int) = false) (h1 : p (((fr + i) % n : Nat) : Int) = true) : (roundL fr n).find? p = some (((fr + i) % n : Nat) : Int) := by
 rw [roundL_split fr n i hi, List.find?_append, List.find?_eq_none.2 (fun t ht => by obtain ⟨s, hs, rfl⟩ := List.mem_map.1 ht; rw [h0 s (List.mem_range.1 hs)]; decide), Option.none_or, List.find?_cons, h1]
def rt_T19 : Bool × List (List Nat × List Nat) := (true, [([], []), ([], []), ([0, 1], [0, 1]), ([], []), ([3], [3]), ([], []), ([4, 5], [4, 5]), ([2, 2, 0, 1, 2], [2]), ([6, 7, 0, 1, 2, 3, 4, 5, 6, 7], [6]), ([8, 0, 1, 2, 3, 4, 5, 6, 7, 8], [])])
def rt_B19 : List Nat := [0, 0, 3, 0, 8, 0, 56, 7, 255, 511]
theorem rt_tab19 : rtab .any (opsOf Try.f14 19) = rt_T19 := by kernel_rfl
theorem rt_bits19 : waitsOk rt_T19.2 rt_B19 = true := by kernel_rfl
set_option maxHeartbeats 8000000 in
set_option maxRecDepth 100000 in
theorem rtake_ok (A0 : Option Addr) (c0 : Nat) (l : List S42) (a b : Int) (w : World) (hC : Kd.C k42 w A0 l.length l) (hc0 : l.length ≤ c0) (hw : wholeB l = true) (hm : mayS l a b 46 = 0) :
  Calls Try.prog 14 #[.slice A0 l.length c0, .agg #[.int .i64 a, .int .i64 b]] w fun e w' => ∃ v, e = .returned (.tuple #[v, .agg #[.int .i64 (takeS l a b).2.1, .int .i64 (takeS l a b).2.2.1], .int .i64 (takeS l a b).2.2.2]) ∧ Kd.S k42 42 w' w.heap.size (fun _ => True) v (takeS l a b).1 ∧ Below w.heap.size w w' := by
 have hw_ := (whole_iff l).1 hw
 have hn := hw_.n1
 have hsm := hw_.small
 have hpos := hw_.n0
 have hwi := rwhole_is l hsm 0
 rw [hw] at hwi
 have hgb : (0 ≤ a ∧ a < (l.length : Int)) ∧ 0 ≤ b ∧ b < (rd_T42 l a).f1 := by
  unfold mayS at hm
  rw [hw, if_neg (by decide)] at hm
  by_cases hh : a < 0 ∨ (l.length : Int) ≤ a ∨ b < 0 ∨ manyS 46 (rd_T42 l a) ≤ b
  ·rw [if_pos hh] at hm; cases hm
  ·unfold manyS at hh
   rw [if_pos rfl] at hh
   omega
 have HC := Aside0.mk hC
 have HCC := Aside0.mk hc0
 have HWH := Aside0.mk hw_
 have HWI := Aside0.mk hwi
 have HGB := Aside0.mk hgb
 have HPOS := Aside0.mk hpos
 have HN := Aside0.mk hn
 have HM0 := Aside0.mk hm
 have f1 : decide (a < 0) = false := decide_eq_false (by omega)
 have f2 : decide ((l.length : Int) ≤ a) = false := decide_eq_false (by omega)
 have f3 : decide (b < 0) = false := decide_eq_false (by omega)
 have f4 : decide ((rd_T42 l a).f1 ≤ b) = false := decide_eq_false (by omega)
 have p1 : (0 ≤ a) = True := eq_true hgb.1.1
 have q1 : (a < (l.length : Int)) = True := eq_true hgb.1.2
 have hat := fun W (hb : Below w.heap.size w W) => at_T42 (Kd.C_below HC.out hb) a hgb.1.1 hgb.1.2
 obtain ⟨yh, hy⟩ : ∃ y, rd_T42 l a = y := ⟨_, rfl⟩
 rw [hy] at f4
 rw [hy] at hat
 clear hC hc0 hw hw_ hwi hn hsm hpos hgb hm hy
 have hu42 := Try.underlying42
 have hu24 := Try.underlying24
 go_enter Try.func14, Try.ntmps14
 go_upto_region 3 with (first | ((with_reducible refine gate_dst (N := 3) rfl ?_); refine box_event rfl (N := 3) rfl (cs := #[.int .i64 a, .int .i64 b]) (t := 24) (by first | (go_simp; done) | (go_simp; rfl)) ?_; intro g3 hg w1 hbox hb; have K3 := Aside0.mk hbox; have HB1 := Aside0.mk hb; have P3 := Aside0.mk (show w.heap.size ≤ g3 by omega); clear hb hbox hg) | ((with_reducible refine gate_dst (N := 5) rfl ?_); refine box_event rfl (N := 5) rfl (cs := #[.int .i64 0, .int .i64 0]) (t := 24) (by first | (go_simp; done) | (go_simp; rfl)) ?_; intro g5 hg w2 hbox hb; have K5 := Aside0.mk hbox; have K32 := Aside0.mk (blk_below K3.out hb); have P5 := Aside0.mk (show w.heap.size ≤ g5 by rw [hg]; exact HB1.out.size); have D35 := Aside0.mk (show g3 ≠ g5 by rw [hg]; have := blk_lt K3.out; omega); have HB2 := Aside0.mk (below_step HB1.out hb); clear K3 HB1; clear hb hbox hg) | (go_at_call 20; refine (selvedgeref18_Whole.calls _ A0 c0 l true w2 (Kd.C_below HC.out HB2.out) HCC.out HWI.out).mono ?_; rintro e w3 ⟨rfl, hb⟩; have K33 := Aside0.mk (blk_below K32.out hb); have K53 := Aside0.mk (blk_below K5.out hb); have HB3 := Aside0.mk (below_step HB2.out hb); clear hb K32 K5 HB2))
 obtain ⟨ad, A5h, c5h, A6h, c6h, rfl, y0, y1, y2, y3, y4, y5, y6, _, _, _, _⟩ := hat w3 HB3.out
 clear hat
 obtain ⟨c0_, c1_⟩ := c2 K33
 go_quiet (fail)
 clear c0_ c1_ y0 y1 y2 y3 y4 y5 y6
 obtain ⟨w4, hw4⟩ : ∃ w4, w3.drewN nq = w4 := ⟨_, rfl⟩
 have hb34 : Below w3.heap.size w3 w4 := by rw [← hw4]; exact pw_below_drewN (Below.refl _ _) nq
 have K34 := Aside0.mk (blk_below K33.out hb34)
 have K54 := Aside0.mk (blk_below K53.out hb34)
 have HB4 := Aside0.mk (below_step HB3.out hb34)
 rw [hw4]
 clear hb34 hw4 K33 K53 HB3 f1 f2 f3 f4 p1 q1
 obtain ⟨gn, rfl⟩ := Int.eq_ofNat_of_zero_le HGB.out.1.1
 obtain ⟨bn, rfl⟩ := Int.eq_ofNat_of_zero_le HGB.out.2.1
 go_wp2
 go_loopg [7] l.length (fun kq v7 w' => ∃ (W : World) (i : Nat), W = w' ∧ i + kq = l.length ∧ v7 = .int .i64 (i : Int) ∧ Aside0 (∀ t, t < i → freeAt l (gn : Int) (bn : Int) (((gn + t) % l.length : Nat) : Int) = none) ∧ Aside0 (Below w4.heap.size w4 W))
 case atStart => exact ⟨w4, 0, rfl, by omega, rfl, ⟨fun t ht => absurd ht (by omega)⟩, ⟨Below.refl _ _⟩⟩
 case round =>
  obtain ⟨W, i, rfl, hi, rfl, HPRE, HBW⟩ := hrel
  cases gk with
  | zero =>
   have d1 : decide ((i : Int) < (l.length : Int)) = false := decide_eq_false (by omega)
   have K5_W := Aside0.mk (blk_below K54.out HBW.out)
   have k5_ : W.cell? ⟨g5, 0, none⟩ = some (.int .i64 0) := (blk_cell K5_W.out 0).trans rfl
   have f5_ := blk_frozen K5_W.out 0
   have k5a_ : W.cell? ⟨g5, 1, none⟩ = some (.int .i64 0) := (blk_cell K5_W.out 1).trans rfl
   have f5a_ := blk_frozen K5_W.out 1
   go_wp2
   obtain ⟨w5, hw5⟩ : ∃ w5, (W.setCell ⟨g5, 0, none⟩ (.int .i64 0)).setCell ⟨g5, 1, none⟩ (.int .i64 0) = w5 := ⟨_, rfl⟩
   rw [hw5]
   have HB5 : Below w.heap.size w w5 := by rw [← hw5]; exact below_set (below_set (HB4.out.trans (HBW.out.mono HB4.out.size)) P5.out) P5.out
   have K55 : w5.heap[g5]? = some (.cells #[.int .i64 0, .int .i64 0] 24 (0, 0)) := by rw [← hw5]; exact blk_put2 K5_W.out rfl _ _
   have c5 : w5.cell? ⟨g5, 0, none⟩ = some (.int .i64 0) := (blk_cell K55 0).trans rfl
   have c5a : w5.cell? ⟨g5, 1, none⟩ = some (.int .i64 0) := (blk_cell K55 1).trans rfl
   have hT : takeS l (gn : Int) (bn : Int) = ([], 0, 0, 4) := by
    unfold takeS
    rw [if_neg (by rw [HM0.out]; decide), Int.toNat_natCast, List.findSome?_eq_none_iff.2 (fun t ht => by obtain ⟨s, hs, rfl⟩ := List.mem_map.1 ht; rw [HPRE.out s (by have := List.mem_range.1 hs; omega)]; rfl)]
   rw [hT]
   refine ⟨rfl, .tuple #[.slice none 0 0, .agg #[.int .i64 0, .int .i64 0], .int .i64 4], ?_, ⟨_, rfl, Kd.S_nil _ _ _ _ _, HB5⟩⟩
   simp [results, Try.f14, go_sem, c5, c5a]
  | succ k1 =>
   have hilt : i < l.length := by omega
   have hgl := HGB.out.1.2
   have hn16 := HN.out
   obtain ⟨xn, hxn⟩ : ∃ xn, (gn + i) % l.length = xn := ⟨_, rfl⟩
   have hxl : xn < l.length := by rw [← hxn]; exact Nat.mod_lt _ (by omega)
   have hx0 : xn = gn ↔ i = 0 := by
    constructor
    ·intro e
     rw [← hxn] at e
     by_cases h : gn + i < l.length
     ·rw [Nat.mod_eq_of_lt h] at e; omega
     ·rw [Nat.mod_eq_sub_mod (by omega), Nat.mod_eq_of_lt (by omega)] at e; omega
    ·rintro rfl
     rw [← hxn, Nat.add_zero, Nat.mod_eq_of_lt (by omega)]
   obtain ⟨sx, hsx⟩ : ∃ sx : Int, (gn : Int) + (i : Int) = sx := ⟨_, rfl⟩
   have hmod : Int.tmod sx (l.length : Int) = (xn : Int) := by rw [Int.tmod_eq_emod_of_nonneg (by omega), ← hsx, ← hxn, ← Int.natCast_add, ← Int.natCast_emod]
   have hwz : IntKind.i64.wrap sx = sx := IntWalk.i64_in _ (by omega)
   have hwz2 : wrap64 sx = sx := by unfold wrap64; omega
   have hne : ((l.length : Int) == 0) = false := by rw [beq_eq_false_iff_ne]; omega
   have hne2 : ¬ (l.length : Int) = 0 := by omega
   have hne3 : ¬ l.length = 0 := by omega
   have d1 : decide ((i : Int) < (l.length : Int)) = true := decide_eq_true (by omega)
   have hry := (HWH.out.at_ xn hxl).2
   have hri := (HWH.out.at_ xn hxl).1
   have hat := at_T42 (Kd.C_below HC.out (HB4.out.trans (HBW.out.mono HB4.out.size))) (xn : Int) (by omega) (by omega)
   simp only [Int.toNat_natCast] at hat
   have hxy := rdT_at l xn hxl
   rw [hxy] at hat
   obtain ⟨y, hy⟩ : ∃ y, l[xn] = y := ⟨_, rfl⟩
   rw [hy] at hat hry hri hxy
   obtain ⟨rn, hrn⟩ := Int.eq_ofNat_of_zero_le hry.r0
   obtain ⟨mn, hmn⟩ := Int.eq_ofNat_of_zero_le (show 0 ≤ y.f1 by have := hry.b0; omega)
   obtain ⟨ad', A5, c5, A6, c6, ea, y0, y1, y2, y3, y4, y5, y6, l5, g5_, l6, g6_⟩ := hat
   cases ea
   rw [hmn] at y1
   rw [hrn] at y4
   have p1 : (0 ≤ (xn : Int)) = True := eq_true (by omega)
   have q1 : ((xn : Int) < (l.length : Int)) = True := eq_true (by omega)
   have G5 := Aside0.mk g5_
   have L5 := Aside0.mk l5
   have G6 := Aside0.mk g6_
   have L6 := Aside0.mk l6
   have HRY := Aside0.mk hry
   have HRI := Aside0.mk hri
   have HXY := Aside0.mk hxy
   have HMN := Aside0.mk hmn
   have HRN := Aside0.mk hrn
   have HX0 := Aside0.mk hx0
   have HXN := Aside0.mk hxn
   have HXL := Aside0.mk hxl
   have HIL := Aside0.mk hilt
   
   have ewi : Aside0 (wrap64 ((i : Int) + 1) = ((i + 1 : Nat) : Int)) := ⟨w64s i (by omega)⟩
   have K3_W := Aside0.mk (blk_below K34.out HBW.out)
   have K5_W := Aside0.mk (blk_below K54.out HBW.out)
   have c0_ : W.cell? ⟨g3, 0, none⟩ = some (.int .i64 (gn : Int)) := (blk_cell K3_W.out 0).trans rfl
   clear l5 g5_ l6 g6_ hry hri hxy hmn hrn hx0 hxn hilt hgl hn16 hxl hy
   go_upto_region 9 with (first | ((with_reducible refine gate_dst (N := 8) rfl ?_); refine box_event rfl (N := 8) rfl (cs := #[.int .i64 0, .int .i64 0, .int .i64 0, .int .i64 0, .int .i64 0, .slice none 0 0, .slice none 0 0]) (t := 42) (by first | (go_simp; done) | (go_simp; rfl)) ?_; intro gc hg wa hbox hb; have KC_a := Aside0.mk hbox; have HBa := Aside0.mk hb; have PC := Aside0.mk (show W.heap.size ≤ gc by omega); have K3_a := Aside0.mk (blk_below K3_W.out hb); have K5_a := Aside0.mk (blk_below K5_W.out hb); obtain ⟨r0, r1, r2, r3, r4, r5, r6, z0, z1, z2, z3, z4, z5, z6⟩ := cf7 KC_a; clear hb hbox hg) | ((with_reducible refine gate_store (t := 42) (p := 8) rfl ?_); refine store_event (t := 42) (p := 8) (v := ?vo_wb) (w1 := (((((((wa.setCell ⟨gc, 0, none⟩ (.int .i64 y.f0)).setCell ⟨gc, 1, none⟩ (.int .i64 (mn : Int))).setCell ⟨gc, 2, none⟩ (.int .i64 y.f2)).setCell ⟨gc, 3, none⟩ (.int .i64 y.f3)).setCell ⟨gc, 4, none⟩ (.int .i64 (rn : Int))).setCell ⟨gc, 5, none⟩ (.slice A5 y.f5.length c5)).setCell ⟨gc, 6, none⟩ (.slice A6 y.f6.length c6))) ?hg ?ho ?hn ?hr ?_; (case ho => rfl); (case hg => rfl); (case hn => rfl); (case hr => first | (go_simp; done) | (go_simp; rfl)); intro wb hw; have KC_b : Aside0 (wb.heap[gc]? = some (.cells #[.int .i64 y.f0, .int .i64 (mn : Int), .int .i64 y.f2, .int .i64 y.f3, .int .i64 (rn : Int), .slice A5 y.f5.length c5, .slice A6 y.f6.length c6] 42 (0, 0))) := ⟨by rw [hw]; exact blk_put7 KC_a.out rfl _ _ _ _ _ _ _⟩; have K3_b : Aside0 (wb.heap[g3]? = some (.cells #[.int .i64 (gn : Int), .int .i64 (bn : Int)] 24 (0, 0))) := ⟨by rw [hw]; exact blk_far7 K3_a.out (fun e => by have := blk_lt K3_W.out; have := PC.out; omega) 0 _ _ _ _ _ _ _⟩; have K5_b : Aside0 (wb.heap[g5]? = some (.cells #[.int .i64 0, .int .i64 0] 24 (0, 0))) := ⟨by rw [hw]; exact blk_far7 K5_a.out (fun e => by have := blk_lt K5_W.out; have := PC.out; omega) 0 _ _ _ _ _ _ _⟩; have HBb : Aside0 (Below W.heap.size W wb) := ⟨by rw [hw]; exact below_set7 HBa.out PC.out 0 _ _ _ _ _ _ _⟩; clear KC_a K3_a K5_a HBa r0 r1 r2 r3 r4 r5 r6 z0 z1 z2 z3 z4 z5 z6 y0 y1 y2 y3 y4 y5 y6; clear hw))
   clear c0_ hmod hwz hwz2 hne hne2 hne3 hsx p1 q1 d1
   obtain ⟨m0, m1, m2, m3, m4, m5, m6⟩ := c7 KC_b
   have c1_ : wb.cell? ⟨g3, 1, none⟩ = some (.int .i64 (bn : Int)) := (blk_cell K3_b.out 1).trans rfl
   by_cases hi0 : i = 0
   ·have fi : ((i : Int) == 0) = true := by rw [beq_iff_eq]; omega
    have HI0 := Aside0.mk hi0
    clear hi0
    have hfree : freeAt l (gn : Int) (bn : Int) (xn : Int) = (roundL bn mn).find? (fun t => !y.f5.contains t) := by
     unfold freeAt freeC
     rw [HXY.out, if_pos (by rw [HX0.out.2 HI0.out]), HMN.out]
     rfl
    have HFR := Aside0.mk hfree
    have hb1_ := HRY.out.b1
    have hb0_ := HRY.out.b0
    have hr1_ := HRY.out.r1
    have hmn_ := HMN.out
    have hrn_ := HRN.out
    have HBND : Aside0 (1 ≤ mn ∧ mn ≤ 64 ∧ bn < 64) := ⟨by have h1_ := HGB.out.2.2; have h2_ := HXY.out; rw [HX0.out.2 HI0.out] at h2_; rw [h2_] at h1_; omega⟩
    clear hfree hb1_ hb0_ hr1_ hmn_ hrn_
    go_wp2
    go_loopg [10] mn (fun kq v10 w' => ∃ (W2 : World) (j : Nat), W2 = w' ∧ j + kq = mn ∧ v10 = .int .i64 (j : Int) ∧ Aside0 (∀ t, t < j → y.f5.contains (((bn + t) % mn : Nat) : Int) = true) ∧ Aside0 (Below wb.heap.size wb W2))
    case atStart => exact ⟨wb, 0, rfl, by omega, rfl, ⟨fun t ht => absurd ht (by omega)⟩, ⟨Below.refl _ _⟩⟩
    case round =>
     obtain ⟨W2, j, rfl, hj, rfl, HPR2, HB2⟩ := hrel
     have KC_2 := Aside0.mk (blk_below KC_b.out HB2.out)
     have K5_2 := Aside0.mk (blk_below K5_b.out HB2.out)
     have m1_ : W2.cell? ⟨gc, 1, none⟩ = some (.int .i64 (mn : Int)) := (blk_cell KC_2.out 1).trans rfl
     have HBW2 : Aside0 (Below w4.heap.size w4 W2) := ⟨HBW.out.trans ((HBb.out.mono HBW.out.size).trans (HB2.out.mono (Nat.le_trans HBW.out.size HBb.out.size)))⟩
     clear m0 m1 m2 m3 m4 m5 m6 c1_ fi
     cases gk with
     | zero =>
      have d2 : decide ((j : Int) < (mn : Int)) = false := decide_eq_false (by omega)
      have HNO : Aside0 (freeAt l (gn : Int) (bn : Int) (xn : Int) = none) := ⟨by
       rw [HFR.out, List.find?_eq_none]
       intro t ht
       obtain ⟨s, hs, rfl⟩ := List.mem_map.1 ht
       have hs2 := List.mem_range.1 hs
       rw [HPR2.out s (by omega)]
       decide⟩
      go_wp2
      go_roundg k1
      case rel =>
       refine ⟨W2, i + 1, rfl, by omega, by first | rfl | rw [ewi.out], ⟨fun t ht => ?_⟩, HBW2⟩
       by_cases h : t < i
       ·exact HPRE.out t h
       ·obtain rfl : t = i := by omega
        rw [HXN.out]
        exact HNO.out
      all_goals omega
     | succ k2 =>
      have hml := HBND.out
      obtain ⟨zn, hzn⟩ : ∃ zn, (bn + j) % mn = zn := ⟨_, rfl⟩
      have hzl : zn < mn := by rw [← hzn]; exact Nat.mod_lt _ (by omega)
      obtain ⟨sz, hsz⟩ : ∃ sz : Int, (bn : Int) + (j : Int) = sz := ⟨_, rfl⟩
      have hmod : Int.tmod sz (mn : Int) = (zn : Int) := by rw [Int.tmod_eq_emod_of_nonneg (by omega), ← hsz, ← hzn, ← Int.natCast_add, ← Int.natCast_emod]
      have hwz : IntKind.i64.wrap sz = sz := IntWalk.i64_in _ (by omega)
      have hwz2 : wrap64 sz = sz := by unfold wrap64; omega
      have hne : ((mn : Int) == 0) = false := by rw [beq_eq_false_iff_ne]; omega
      have hne2 : ¬ (mn : Int) = 0 := by omega
      have hne3 : ¬ mn = 0 := by omega
      have d2 : decide ((j : Int) < (mn : Int)) = true := decide_eq_true (by omega)
      have d2b : decide (j < mn) = true := decide_eq_true (by omega)
      have d2c : j < mn := by omega
      have HZN := Aside0.mk hzn
      have HZL := Aside0.mk hzl
      have HML := Aside0.mk hml
      have HJ := Aside0.mk hj
      have HNE := Aside0.mk (And.intro hne (And.intro hne2 hne3))
      have ewj : Aside0 (wrap64 ((j : Int) + 1) = ((j + 1 : Nat) : Int)) := ⟨w64s j (by omega)⟩
      clear hml hzn hzl hj
      go_upto_region 16 with (fail)
      clear hmod hwz hwz2 hne hne2 hne3 hsz d2 d2b d2c m1_
      have m5_ : W2.cell? ⟨gc, 5, none⟩ = some (.slice A5 y.f5.length c5) := (blk_cell KC_2.out 5).trans rfl
      cases hcz : y.f5.contains (zn : Int) with
      | true =>
       have HHAS := Aside0.mk (rhas_is y.f5 (by have := HRY.out.ulen; omega) (zn : Int) 0)
       have HCZ := Aside0.mk hcz
       rw [hcz] at HHAS
       clear hcz
       go_wp2_with (go_at_call 51; refine (selvedgeref18_has.calls _ A5 c5 y.f5 (zn : Int) true W2 (Kd.C_below G5.out (HBb.out.trans (HB2.out.mono HBb.out.size))) L5.out HHAS.out).mono ?_; rintro e w5 ⟨rfl, hd⟩; have HD : Aside0 (Below W2.heap.size W2 w5) := ⟨(by obtain ⟨n, rfl⟩ := hd; exact pw_below_drewN (Below.refl _ _) n)⟩; clear hd)
       go_roundg k2
       case rel =>
        refine ⟨w5, j + 1, rfl, by have := HJ.out; omega, by first | rfl | rw [ewj.out], ⟨fun t ht => ?_⟩, ⟨HB2.out.trans (HD.out.mono HB2.out.size)⟩⟩
        by_cases h : t < j
        ·exact HPR2.out t h
        ·obtain rfl : t = j := by omega
         rw [HZN.out]
         exact HCZ.out
       all_goals omega
      | false =>
       have HHAS := Aside0.mk (rhas_is y.f5 (by have := HRY.out.ulen; omega) (zn : Int) 0)
       have hpl := putAt_len y.f5 (ixOf y.f5 (zn : Int)) (zn : Int)
       have hwith := rwith_is y.f5 (by have := HRY.out.ulen; omega) (-1) y.f1 (zn : Int) HRY.out.u hcz 0
       obtain ⟨P, hP⟩ : ∃ P, putAt y.f5 (ixOf y.f5 (zn : Int)) (zn : Int) = P := ⟨_, rfl⟩
       rw [hP] at hpl hwith
       have HP := Aside0.mk hP
       have HPL := Aside0.mk hpl
       have HWITH := Aside0.mk hwith
       have HCZ := Aside0.mk hcz
       rw [hcz] at HHAS
       obtain ⟨ro, hro⟩ : ∃ ro : Int, ((zn : Int) + 1) % (mn : Int) = ro := ⟨_, rfl⟩
       have HRO := Aside0.mk hro
       clear hcz hpl hwith hP hro
       go_upto_region 18 with (first | (go_at_call 51; refine (selvedgeref18_has.calls _ A5 c5 y.f5 (zn : Int) false W2 (Kd.C_below G5.out (HBb.out.trans (HB2.out.mono HBb.out.size))) L5.out HHAS.out).mono ?_; rintro e w5 ⟨rfl, hd⟩; have HD : Aside0 (Below W2.heap.size W2 w5) := ⟨(by obtain ⟨n, rfl⟩ := hd; exact pw_below_drewN (Below.refl _ _) n)⟩; clear hd m5_; have KC_5 := Aside0.mk (blk_below KC_2.out HD.out); have K5_5 := Aside0.mk (blk_below K5_2.out HD.out); have m5_ : w5.cell? ⟨gc, 5, none⟩ = some (.slice A5 y.f5.length c5) := (blk_cell KC_5.out 5).trans rfl; have HB5 : Aside0 (Below W.heap.size W w5) := ⟨HBb.out.trans ((HB2.out.mono HBb.out.size).trans (HD.out.mono (Nat.le_trans HBb.out.size HB2.out.size)))⟩) | (go_at_call 52; refine (selvedgeref18_with.calls _ A5 c5 y.f5 (zn : Int) P w5 (Kd.C_below G5.out HB5.out) L5.out HWITH.out).mono ?_; rintro e w6 ⟨v, rfl, hR, hb⟩; obtain ⟨gi, ci, rfl, _, _, _⟩ := Kd.R_form hR (by have := HPL.out; omega); have HR6 := Aside0.mk hR; have HB56 := Aside0.mk hb; clear hR hb m5_; have KC_6 := Aside0.mk (blk_below KC_5.out HB56.out); have K5_6 := Aside0.mk (blk_below K5_5.out HB56.out); have m5_ : w6.cell? ⟨gc, 5, none⟩ = some (.slice A5 y.f5.length c5) := (blk_cell KC_6.out 5).trans rfl; have u5_ := blk_frozen KC_6.out 5))
       obtain ⟨w7, hw⟩ : ∃ w_, (w6.setCell ⟨gc, 5, none⟩ (.slice (some ⟨gi, 0, none⟩) P.length ci)) = w_ := ⟨_, rfl⟩
       rw [hw]
       have KC_7 : Aside0 (w7.heap[gc]? = some (.cells #[.int .i64 y.f0, .int .i64 (mn : Int), .int .i64 y.f2, .int .i64 y.f3, .int .i64 (rn : Int), .slice (some ⟨gi, 0, none⟩) P.length ci, .slice A6 y.f6.length c6] 42 (0, 0))) := ⟨by rw [← hw]; exact blk_put KC_6.out 5 (.slice (some ⟨gi, 0, none⟩) P.length ci) rfl⟩
       have K5_7 : Aside0 (w7.heap[g5]? = some (.cells #[.int .i64 0, .int .i64 0] 24 (0, 0))) := ⟨by rw [← hw]; exact blk_far K5_6.out (p := ⟨gc, 5, none⟩) (blk_ne K5_6.out KC_6.out (by decide)) _⟩
       have HR7 : Aside0 (Kd.R (Kd.int .i64) 3 w7 w5.heap.size (fun _ => True) (.slice (some ⟨gi, 0, none⟩) P.length ci) P) := ⟨by rw [← hw]; exact Kd.R_mono (Kd.R_far (Kd.R_mono (Kd.R_bound HR6.out) (fun k hk => (fun e => by have h1_ := hk.2.1; have h2_ := blk_lt KC_5.out; omega : k ≠ gc))) (p := ⟨gc, 5, none⟩) (fun _ h => h) _) (fun _ _ => trivial)⟩
       have HB7 : Aside0 (Below W.heap.size W w7) := ⟨by rw [← hw]; exact below_set (HB5.out.trans (HB56.out.mono HB5.out.size)) PC.out⟩
       clear m5_ u5_
       clear hw
       have m1_ : w7.cell? ⟨gc, 1, none⟩ = some (.int .i64 (mn : Int)) := (blk_cell KC_7.out 1).trans rfl
       have m4_ : w7.cell? ⟨gc, 4, none⟩ = some (.int .i64 (rn : Int)) := (blk_cell KC_7.out 4).trans rfl
       have u4_ := blk_frozen KC_7.out 4
       have hml := HML.out
       have hzl := HZL.out
       obtain ⟨z1, hz1⟩ : ∃ z1 : Int, (zn : Int) + 1 = z1 := ⟨_, rfl⟩
       have hmod : Int.tmod z1 (mn : Int) = ro := by rw [Int.tmod_eq_emod_of_nonneg (by omega), ← hz1]; exact HRO.out
       have hwz : IntKind.i64.wrap z1 = z1 := IntWalk.i64_in _ (by omega)
       have hwz2 : wrap64 z1 = z1 := by unfold wrap64; omega
       obtain ⟨hne, hne2, hne3⟩ := HNE.out
       clear hml hzl
       go_upto_region 19 with (fail)
       obtain ⟨w8, hw⟩ : ∃ w_, (w7.setCell ⟨gc, 4, none⟩ (.int .i64 ro)) = w_ := ⟨_, rfl⟩
       rw [hw]
       have KC_8 : Aside0 (w8.heap[gc]? = some (.cells #[.int .i64 y.f0, .int .i64 (mn : Int), .int .i64 y.f2, .int .i64 y.f3, .int .i64 ro, .slice (some ⟨gi, 0, none⟩) P.length ci, .slice A6 y.f6.length c6] 42 (0, 0))) := ⟨by rw [← hw]; exact blk_put KC_7.out 4 (.int .i64 ro) rfl⟩
       have K5_8 : Aside0 (w8.heap[g5]? = some (.cells #[.int .i64 0, .int .i64 0] 24 (0, 0))) := ⟨by rw [← hw]; exact blk_far K5_7.out (p := ⟨gc, 4, none⟩) (blk_ne K5_7.out KC_7.out (by decide)) _⟩
       have HR8 : Aside0 (Kd.R (Kd.int .i64) 3 w8 w5.heap.size (fun _ => True) (.slice (some ⟨gi, 0, none⟩) P.length ci) P) := ⟨by rw [← hw]; exact Kd.R_mono (Kd.R_far (Kd.R_mono (Kd.R_bound HR7.out) (fun k hk => (fun e => by have h1_ := hk.2.1; have h2_ := blk_lt KC_5.out; omega : k ≠ gc))) (p := ⟨gc, 4, none⟩) (fun _ h => h) _) (fun _ _ => trivial)⟩
       have HB8 : Aside0 (Below W.heap.size W w8) := ⟨by rw [← hw]; exact below_set HB7.out PC.out⟩
       clear hw
       clear m1_ m4_ u4_ hmod hwz hwz2 hne hne2 hne3 hz1
       obtain ⟨s0, s1, s2, s3, s4, s5, s6⟩ := c7 KC_8
       have hTK : (⟨y.f0, (mn : Int), wrap64 ((mn : Int) - (P.length : Int)), wrap64 (16 - (y.f6.length : Int)), ro, P, y.f6⟩ : S42) = takeC y (zn : Int) := by
        have hl5 := HPL.out
        have hu5 := HRY.out.ulen
        have hml := HML.out
        have hl6 := HRY.out.nlen
        unfold takeC
        rw [HMN.out, HP.out, HRO.out, show wrap64 ((mn : Int) - (P.length : Int)) = (mn : Int) - ((y.f5.length : Int) + 1) from by unfold wrap64; omega, show wrap64 (16 - (y.f6.length : Int)) = 16 - (y.f6.length : Int) from by unfold wrap64; omega]
       have hsetf : selvedgeref18_set.f (0 + 1001) l y.f0 (mn : Int) y.f2 y.f3 ro P y.f6 = some (l.set xn (takeC y (zn : Int))) := by
        have h := rset_is l HWH.out.small xn (mn : Int) y.f2 y.f3 ro P y.f6 (by have := HPL.out; have := HRY.out.ulen; omega) (by have := HRY.out.nlen; omega) 0
        rw [← HRI.out, hTK] at h
        exact h
       have hset := fun W_ (hb_ : Below w8.heap.size w8 W_) => selvedgeref18_set.calls (0 + 1001) (some ad) c0 l y.f0 (mn : Int) y.f2 y.f3 ro (some ⟨gi, 0, none⟩) ci P A6 c6 y.f6 _ W_ (Kd.C_below HC.out (HB4.out.trans ((HBW.out.mono HB4.out.size).trans ((HB8.out.mono (Nat.le_trans HB4.out.size HBW.out.size)).trans (hb_.mono (Nat.le_trans HB4.out.size (Nat.le_trans HBW.out.size HB8.out.size))))))) HCC.out (Kd.C_below (Kd.R_reads' HR8.out).2.2 hb_) (Kd.R_reads' HR8.out).2.1 (Kd.C_below G6.out (HB8.out.trans (hb_.mono HB8.out.size))) L6.out hsetf
       clear hTK hsetf
       refine start_ (n := 10) (S := fun w' => w'.cell? ⟨gc, 0, none⟩ = some (.int .i64 y.f0) ∧ w'.cell? ⟨gc, 1, none⟩ = some (.int .i64 (mn : Int)) ∧ w'.cell? ⟨gc, 2, none⟩ = some (.int .i64 y.f2) ∧ w'.cell? ⟨gc, 3, none⟩ = some (.int .i64 y.f3) ∧ w'.cell? ⟨gc, 4, none⟩ = some (.int .i64 ro) ∧ w'.cell? ⟨gc, 5, none⟩ = some (.slice (some ⟨gi, 0, none⟩) P.length ci) ∧ w'.cell? ⟨gc, 6, none⟩ = some (.slice A6 y.f6.length c6)) (ds := [8]) #[false, false, false, false, false, false, false, false, false, false] (by kernel_rfl) rfl rfl ⟨s0, s1, s2, s3, s4, s5, s6⟩ (fun hHeld => ?_); refine with_tabW rt_tab19 rt_bits19 (fun HT_ HW_ => ?_)
       refine pure_ (i := 0) (N := some 94) (v := ?_) (a' := ?_) #[true, false, false, false, false, false, false, false, false, false] rfl rfl (any_of HT_.out (by kernel_rfl)) (fun _ _ _ h => h) (Or.inl ⟨by rfl, ?_⟩) ?_ ?_
       rotate_left
       ·intro w'
        go_simp
        with_reducible rfl
       rotate_left
       ·go_simp
        rfl
       refine take_ (i := 1) (N := some 95) (v := ?_) (a' := ?_) #[true, true, false, false, false, false, false, false, false, false] rfl rfl (take_ofW HT_.out HW_.out (by kernel_rfl)) (fun _ _ _ h => h) (Or.inl ⟨by rfl, ?_⟩) hHeld ?_ ?_
       rotate_left
       ·rintro w' ⟨s0, s1, s2, s3, s4, s5, s6⟩
        go_simp
        with_reducible rfl
       rotate_left
       ·go_simp
        rfl
       refine pure_ (i := 3) (N := some 97) (v := ?_) (a' := ?_) #[true, true, false, true, false, false, false, false, false, false] rfl rfl (any_of HT_.out (by kernel_rfl)) (fun _ _ _ h => h) (Or.inl ⟨by rfl, ?_⟩) ?_ ?_
       rotate_left
       ·intro w'
        go_simp
        with_reducible rfl
       rotate_left
       ·go_simp
        rfl
       refine take_ (i := 4) (N := some 98) (v := ?_) (a' := ?_) #[true, true, false, true, true, false, false, false, false, false] rfl rfl (take_ofW HT_.out HW_.out (by kernel_rfl)) (fun _ _ _ h => h) (Or.inl ⟨by rfl, ?_⟩) hHeld ?_ ?_
       rotate_left
       ·rintro w' ⟨s0, s1, s2, s3, s4, s5, s6⟩
        go_simp
        with_reducible rfl
       rotate_left
       ·go_simp
        rfl
       refine pure_ (i := 5) (N := some 99) (v := ?_) (a' := ?_) #[true, true, false, true, true, true, false, false, false, false] rfl rfl (any_of HT_.out (by kernel_rfl)) (fun _ _ _ h => h) (Or.inl ⟨by rfl, ?_⟩) ?_ ?_
       rotate_left
       ·intro w'
        go_simp
        with_reducible rfl
       rotate_left
       ·go_simp
        rfl
       refine pure_ (i := 6) (N := some 100) (v := ?_) (a' := ?_) #[true, true, false, true, true, true, true, false, false, false] rfl rfl (any_of HT_.out (by kernel_rfl)) (fun _ _ _ h => h) (Or.inl ⟨by rfl, ?_⟩) ?_ ?_
       rotate_left
       ·intro w'
        go_simp
        with_reducible rfl
       rotate_left
       ·go_simp
        rfl
       refine one_ (i := 2) (N := some 96) #[true, true, true, true, true, true, true, false, false, false] rfl rfl (one_of HT_.out (by kernel_rfl)) (by decide) (fun K hK => ?_)
       refine goes_ Try.func53 (by kernel_rfl) rfl #[.slice (some ad) l.length c0, .agg #[.int .i64 y.f0, .int .i64 (mn : Int), .int .i64 y.f2, .int .i64 y.f3, .int .i64 ro, .slice (some ⟨gi, 0, none⟩) P.length ci, .slice A6 y.f6.length c6]] (by rfl) rfl rfl (by (try simp only [List.map_toArray, List.map_cons, List.map_nil]); rfl) ?_
       refine (hset _ (below_drew (Below.refl _ _))).mono ?_
       rintro e w9 ⟨v, rfl, hS, hb⟩
       have HB89 : Aside0 (Below w8.heap.size w8 w9) := ⟨below_step (below_drew (Below.refl _ _)) hb⟩
       have HS9 := Aside0.mk hS
       refine ⟨_, rfl, ?_⟩
       obtain ⟨t0, t1, t2, t3, t4, t5, t6⟩ := hHeld
       have a0 := pw_cell_below hb t0
       have a1 := pw_cell_below hb t1
       have a2 := pw_cell_below hb t2
       have a3 := pw_cell_below hb t3
       have a4 := pw_cell_below hb t4
       have a5 := pw_cell_below hb t5
       have a6 := pw_cell_below hb t6
       clear t0 t1 t2 t3 t4 t5 t6 hb hS hset s0 s1 s2 s3 s4 s5 s6
       have K5_9 := Aside0.mk (blk_below K5_8.out HB89.out)
       have k5_ : w9.cell? ⟨g5, 0, none⟩ = some (.int .i64 0) := (blk_cell K5_9.out 0).trans rfl
       have f5_ := blk_frozen K5_9.out 0
       have k5a_ : w9.cell? ⟨g5, 1, none⟩ = some (.int .i64 0) := (blk_cell K5_9.out 1).trans rfl
       have f5a_ := blk_frozen K5_9.out 1
       refine hK.out _ _ ⟨a0, a1, a2, a3, a4, a5, a6⟩ (fun hHeld => ?_)
       clear hK K
       refine norm_ (a' := ?_) ?_ ?_
       rotate_left
       ·show Act.put _ (some 96) _ = _
        go_simp
        rfl
       refine pure_ (i := 7) (N := some 4) (v := ?_) (a' := ?_) #[true, true, true, true, true, true, true, true, false, false] rfl rfl (any_of HT_.out (by kernel_rfl)) (fun _ _ _ h => h) (Or.inl ⟨by rfl, ?_⟩) ?_ ?_
       rotate_left
       ·intro w'
        go_simp
        with_reducible rfl
       rotate_left
       ·go_simp
        rfl
       refine last_ (i := 8) (N := none) #[true, true, true, true, true, true, true, true, true, false] rfl rfl (one_of HT_.out (by kernel_rfl)) (by decide) (fun K hK => ?_)
       refine skipE_ (w1 := ((w9.setCell ⟨g5, 0, none⟩ (.int .i64 y.f0)).setCell ⟨g5, 1, none⟩ (.int .i64 (zn : Int)))) (by rfl) rfl (by first | (go_simp; done) | (go_simp; rfl)) (fun w10 hw => ?_)
       have K5_10 : Aside0 (w10.heap[g5]? = some (.cells #[.int .i64 y.f0, .int .i64 (zn : Int)] 24 (0, 0))) := ⟨by rw [hw]; exact blk_put2 K5_9.out rfl _ _⟩
       have HS10 : Aside0 (Kd.S k42 42 w10 w.heap.size (fun _ => True) v (l.set xn (takeC y (zn : Int)))) := ⟨by rw [hw]; exact Kd.S_lower (Kd.S_mono (Kd.S_far (Kd.S_far (Kd.S_types HS9.out K5_9.out (by decide)) (p := ⟨g5, 0, none⟩) (fun k hk => hk.2) _) (p := ⟨g5, 1, none⟩) (fun k hk => hk.2) _) (fun _ _ => trivial)) (Nat.le_trans (HB4.out.trans ((HBW.out.mono HB4.out.size).trans (HB8.out.mono (Nat.le_trans HB4.out.size HBW.out.size)))).size (Nat.le_of_eq rfl))⟩
       have HB10 : Aside0 (Below w.heap.size w w10) := ⟨by rw [hw]; exact below_set (below_set (HB4.out.trans ((HBW.out.mono HB4.out.size).trans ((HB8.out.mono (Nat.le_trans HB4.out.size HBW.out.size)).trans (HB89.out.mono (Nat.le_trans HB4.out.size (Nat.le_trans HBW.out.size HB8.out.size)))))) P5.out) P5.out⟩
       clear hw
       refine hK.out _ _ ?_
       clear hK K
       refine pure_ (i := 9) (N := some 6) (v := ?_) (a' := ?_) #[true, true, true, true, true, true, true, true, true, true] rfl rfl (any_of HT_.out (by kernel_rfl)) (fun _ _ _ h => h) (Or.inl ⟨by rfl, ?_⟩) ?_ ?_
       rotate_left
       ·intro w'
        go_simp
        with_reducible rfl
       rotate_left
       ·go_simp
        rfl
       refine done_ (done_of HT_.out (by kernel_rfl)) ?_
       go_wp2
       have c5_ : w10.cell? ⟨g5, 0, none⟩ = some (.int .i64 (xn : Int)) := by rw [← HRI.out]; exact (blk_cell K5_10.out 0).trans rfl
       have c5a_ : w10.cell? ⟨g5, 1, none⟩ = some (.int .i64 (zn : Int)) := (blk_cell K5_10.out 1).trans rfl
       have hfa : freeAt l (gn : Int) (bn : Int) (xn : Int) = some (zn : Int) := by
        rw [HFR.out]
        refine (roundL_find bn mn j (by have := HJ.out; omega) _ (fun t ht => by rw [HPR2.out t ht]; rfl) ?_).trans (by rw [HZN.out])
        rw [HZN.out, HCZ.out]
        rfl
       have hT : takeS l (gn : Int) (bn : Int) = (l.set xn (takeC y (zn : Int)), (xn : Int), (zn : Int), 0) := by
        unfold takeS
        rw [if_neg (by rw [HM0.out]; decide), Int.toNat_natCast, roundL_first gn l.length i HIL.out _ (fun t ht => by rw [HPRE.out t ht]; rfl) (v := ((xn : Int), (zn : Int))) (by rw [HXN.out, hfa]; rfl)]
        show (l.set (xn : Int).toNat (takeC (rd_T42 l (xn : Int)) (zn : Int)), (xn : Int), (zn : Int), (0 : Int)) = _
        rw [HXY.out, Int.toNat_natCast]
       rw [hT]
       refine ⟨rfl, .tuple #[v, .agg #[.int .i64 (xn : Int), .int .i64 (zn : Int)], .int .i64 0], ?_, ⟨_, rfl, HS10.out, HB10.out⟩⟩
       simp [results, Try.f14, go_sem, c5_, c5a_]
   ·have fi : ((i : Int) == 0) = false := by rw [beq_eq_false_iff_ne]; omega
    have HI0 := Aside0.mk hi0
    clear hi0
    have hfree : freeAt l (gn : Int) (bn : Int) (xn : Int) = (roundL rn mn).find? (fun t => !y.f5.contains t) := by
     unfold freeAt freeC
     rw [HXY.out, if_neg (show ¬ (xn : Int) = (gn : Int) from fun e => HI0.out (HX0.out.1 (by omega))), HRN.out, HMN.out]
     rfl
    have HFR := Aside0.mk hfree
    have hb1_ := HRY.out.b1
    have hb0_ := HRY.out.b0
    have hr1_ := HRY.out.r1
    have hmn_ := HMN.out
    have hrn_ := HRN.out
    have HBND : Aside0 (1 ≤ mn ∧ mn ≤ 64 ∧ rn < 64) := ⟨by omega⟩
    clear hfree hb1_ hb0_ hr1_ hmn_ hrn_
    go_wp2
    go_loopg [10] mn (fun kq v10 w' => ∃ (W2 : World) (j : Nat), W2 = w' ∧ j + kq = mn ∧ v10 = .int .i64 (j : Int) ∧ Aside0 (∀ t, t < j → y.f5.contains (((rn + t) % mn : Nat) : Int) = true) ∧ Aside0 (Below wb.heap.size wb W2))
    case atStart => exact ⟨wb, 0, rfl, by omega, rfl, ⟨fun t ht => absurd ht (by omega)⟩, ⟨Below.refl _ _⟩⟩
    case round =>
     obtain ⟨W2, j, rfl, hj, rfl, HPR2, HB2⟩ := hrel
     have KC_2 := Aside0.mk (blk_below KC_b.out HB2.out)
     have K5_2 := Aside0.mk (blk_below K5_b.out HB2.out)
     have m1_ : W2.cell? ⟨gc, 1, none⟩ = some (.int .i64 (mn : Int)) := (blk_cell KC_2.out 1).trans rfl
     have HBW2 : Aside0 (Below w4.heap.size w4 W2) := ⟨HBW.out.trans ((HBb.out.mono HBW.out.size).trans (HB2.out.mono (Nat.le_trans HBW.out.size HBb.out.size)))⟩
     clear m0 m1 m2 m3 m4 m5 m6 c1_ fi
     cases gk with
     | zero =>
      have d2 : decide ((j : Int) < (mn : Int)) = false := decide_eq_false (by omega)
      have HNO : Aside0 (freeAt l (gn : Int) (bn : Int) (xn : Int) = none) := ⟨by
       rw [HFR.out, List.find?_eq_none]
       intro t ht
       obtain ⟨s, hs, rfl⟩ := List.mem_map.1 ht
       have hs2 := List.mem_range.1 hs
       rw [HPR2.out s (by omega)]
       decide⟩
      go_wp2
      go_roundg k1
      case rel =>
       refine ⟨W2, i + 1, rfl, by omega, by first | rfl | rw [ewi.out], ⟨fun t ht => ?_⟩, HBW2⟩
       by_cases h : t < i
       ·exact HPRE.out t h
       ·obtain rfl : t = i := by omega
        rw [HXN.out]
        exact HNO.out
      all_goals omega
     | succ k2 =>
      have hml := HBND.out
      obtain ⟨zn, hzn⟩ : ∃ zn, (rn + j) % mn = zn := ⟨_, rfl⟩
      have hzl : zn < mn := by rw [← hzn]; exact Nat.mod_lt _ (by omega)
      obtain ⟨sz, hsz⟩ : ∃ sz : Int, (rn : Int) + (j : Int) = sz := ⟨_, rfl⟩
      have hmod : Int.tmod sz (mn : Int) = (zn : Int) := by rw [Int.tmod_eq_emod_of_nonneg (by omega), ← hsz, ← hzn, ← Int.natCast_add, ← Int.natCast_emod]
      have hwz : IntKind.i64.wrap sz = sz := IntWalk.i64_in _ (by omega)
      have hwz2 : wrap64 sz = sz := by unfold wrap64; omega
      have hne : ((mn : Int) == 0) = false := by rw [beq_eq_false_iff_ne]; omega
      have hne2 : ¬ (mn : Int) = 0 := by omega
      have hne3 : ¬ mn = 0 := by omega
      have d2 : decide ((j : Int) < (mn : Int)) = true := decide_eq_true (by omega)
      have d2b : decide (j < mn) = true := decide_eq_true (by omega)
      have d2c : j < mn := by omega
      have HZN := Aside0.mk hzn
      have HZL := Aside0.mk hzl
      have HML := Aside0.mk hml
      have HJ := Aside0.mk hj
      have HNE := Aside0.mk (And.intro hne (And.intro hne2 hne3))
      have ewj : Aside0 (wrap64 ((j : Int) + 1) = ((j + 1 : Nat) : Int)) := ⟨w64s j (by omega)⟩
      clear hml hzn hzl hj
      go_upto_region 16 with (fail)
      clear hmod hwz hwz2 hne hne2 hne3 hsz d2 d2b d2c m1_
      have m5_ : W2.cell? ⟨gc, 5, none⟩ = some (.slice A5 y.f5.length c5) := (blk_cell KC_2.out 5).trans rfl
      cases hcz : y.f5.contains (zn : Int) with
      | true =>
       have HHAS := Aside0.mk (rhas_is y.f5 (by have := HRY.out.ulen; omega) (zn : Int) 0)
       have HCZ := Aside0.mk hcz
       rw [hcz] at HHAS
       clear hcz
       go_wp2_with (go_at_call 51; refine (selvedgeref18_has.calls _ A5 c5 y.f5 (zn : Int) true W2 (Kd.C_below G5.out (HBb.out.trans (HB2.out.mono HBb.out.size))) L5.out HHAS.out).mono ?_; rintro e w5 ⟨rfl, hd⟩; have HD : Aside0 (Below W2.heap.size W2 w5) := ⟨(by obtain ⟨n, rfl⟩ := hd; exact pw_below_drewN (Below.refl _ _) n)⟩; clear hd)
       go_roundg k2
       case rel =>
        refine ⟨w5, j + 1, rfl, by have := HJ.out; omega, by first | rfl | rw [ewj.out], ⟨fun t ht => ?_⟩, ⟨HB2.out.trans (HD.out.mono HB2.out.size)⟩⟩
        by_cases h : t < j
        ·exact HPR2.out t h
        ·obtain rfl : t = j := by omega
         rw [HZN.out]
         exact HCZ.out
       all_goals omega
      | false =>
       have HHAS := Aside0.mk (rhas_is y.f5 (by have := HRY.out.ulen; omega) (zn : Int) 0)
       have hpl := putAt_len y.f5 (ixOf y.f5 (zn : Int)) (zn : Int)
       have hwith := rwith_is y.f5 (by have := HRY.out.ulen; omega) (-1) y.f1 (zn : Int) HRY.out.u hcz 0
       obtain ⟨P, hP⟩ : ∃ P, putAt y.f5 (ixOf y.f5 (zn : Int)) (zn : Int) = P := ⟨_, rfl⟩
       rw [hP] at hpl hwith
       have HP := Aside0.mk hP
       have HPL := Aside0.mk hpl
       have HWITH := Aside0.mk hwith
       have HCZ := Aside0.mk hcz
       rw [hcz] at HHAS
       obtain ⟨ro, hro⟩ : ∃ ro : Int, ((zn : Int) + 1) % (mn : Int) = ro := ⟨_, rfl⟩
       have HRO := Aside0.mk hro
       clear hcz hpl hwith hP hro
       go_upto_region 18 with (first | (go_at_call 51; refine (selvedgeref18_has.calls _ A5 c5 y.f5 (zn : Int) false W2 (Kd.C_below G5.out (HBb.out.trans (HB2.out.mono HBb.out.size))) L5.out HHAS.out).mono ?_; rintro e w5 ⟨rfl, hd⟩; have HD : Aside0 (Below W2.heap.size W2 w5) := ⟨(by obtain ⟨n, rfl⟩ := hd; exact pw_below_drewN (Below.refl _ _) n)⟩; clear hd m5_; have KC_5 := Aside0.mk (blk_below KC_2.out HD.out); have K5_5 := Aside0.mk (blk_below K5_2.out HD.out); have m5_ : w5.cell? ⟨gc, 5, none⟩ = some (.slice A5 y.f5.length c5) := (blk_cell KC_5.out 5).trans rfl; have HB5 : Aside0 (Below W.heap.size W w5) := ⟨HBb.out.trans ((HB2.out.mono HBb.out.size).trans (HD.out.mono (Nat.le_trans HBb.out.size HB2.out.size)))⟩) | (go_at_call 52; refine (selvedgeref18_with.calls _ A5 c5 y.f5 (zn : Int) P w5 (Kd.C_below G5.out HB5.out) L5.out HWITH.out).mono ?_; rintro e w6 ⟨v, rfl, hR, hb⟩; obtain ⟨gi, ci, rfl, _, _, _⟩ := Kd.R_form hR (by have := HPL.out; omega); have HR6 := Aside0.mk hR; have HB56 := Aside0.mk hb; clear hR hb m5_; have KC_6 := Aside0.mk (blk_below KC_5.out HB56.out); have K5_6 := Aside0.mk (blk_below K5_5.out HB56.out); have m5_ : w6.cell? ⟨gc, 5, none⟩ = some (.slice A5 y.f5.length c5) := (blk_cell KC_6.out 5).trans rfl; have u5_ := blk_frozen KC_6.out 5))
       obtain ⟨w7, hw⟩ : ∃ w_, (w6.setCell ⟨gc, 5, none⟩ (.slice (some ⟨gi, 0, none⟩) P.length ci)) = w_ := ⟨_, rfl⟩
       rw [hw]
       have KC_7 : Aside0 (w7.heap[gc]? = some (.cells #[.int .i64 y.f0, .int .i64 (mn : Int), .int .i64 y.f2, .int .i64 y.f3, .int .i64 (rn : Int), .slice (some ⟨gi, 0, none⟩) P.length ci, .slice A6 y.f6.length c6] 42 (0, 0))) := ⟨by rw [← hw]; exact blk_put KC_6.out 5 (.slice (some ⟨gi, 0, none⟩) P.length ci) rfl⟩
       have K5_7 : Aside0 (w7.heap[g5]? = some (.cells #[.int .i64 0, .int .i64 0] 24 (0, 0))) := ⟨by rw [← hw]; exact blk_far K5_6.out (p := ⟨gc, 5, none⟩) (blk_ne K5_6.out KC_6.out (by decide)) _⟩
       have HR7 : Aside0 (Kd.R (Kd.int .i64) 3 w7 w5.heap.size (fun _ => True) (.slice (some ⟨gi, 0, none⟩) P.length ci) P) := ⟨by rw [← hw]; exact Kd.R_mono (Kd.R_far (Kd.R_mono (Kd.R_bound HR6.out) (fun k hk => (fun e => by have h1_ := hk.2.1; have h2_ := blk_lt KC_5.out; omega : k ≠ gc))) (p := ⟨gc, 5, none⟩) (fun _ h => h) _) (fun _ _ => trivial)⟩
       have HB7 : Aside0 (Below W.heap.size W w7) := ⟨by rw [← hw]; exact below_set (HB5.out.trans (HB56.out.mono HB5.out.size)) PC.out⟩
       clear m5_ u5_
       clear hw
       have m1_ : w7.cell? ⟨gc, 1, none⟩ = some (.int .i64 (mn : Int)) := (blk_cell KC_7.out 1).trans rfl
       have m4_ : w7.cell? ⟨gc, 4, none⟩ = some (.int .i64 (rn : Int)) := (blk_cell KC_7.out 4).trans rfl
       have u4_ := blk_frozen KC_7.out 4
       have hml := HML.out
       have hzl := HZL.out
       obtain ⟨z1, hz1⟩ : ∃ z1 : Int, (zn : Int) + 1 = z1 := ⟨_, rfl⟩
       have hmod : Int.tmod z1 (mn : Int) = ro := by rw [Int.tmod_eq_emod_of_nonneg (by omega), ← hz1]; exact HRO.out
       have hwz : IntKind.i64.wrap z1 = z1 := IntWalk.i64_in _ (by omega)
       have hwz2 : wrap64 z1 = z1 := by unfold wrap64; omega
       obtain ⟨hne, hne2, hne3⟩ := HNE.out
       clear hml hzl
       go_upto_region 19 with (fail)
       obtain ⟨w8, hw⟩ : ∃ w_, (w7.setCell ⟨gc, 4, none⟩ (.int .i64 ro)) = w_ := ⟨_, rfl⟩
       rw [hw]
       have KC_8 : Aside0 (w8.heap[gc]? = some (.cells #[.int .i64 y.f0, .int .i64 (mn : Int), .int .i64 y.f2, .int .i64 y.f3, .int .i64 ro, .slice (some ⟨gi, 0, none⟩) P.length ci, .slice A6 y.f6.length c6] 42 (0, 0))) := ⟨by rw [← hw]; exact blk_put KC_7.out 4 (.int .i64 ro) rfl⟩
       have K5_8 : Aside0 (w8.heap[g5]? = some (.cells #[.int .i64 0, .int .i64 0] 24 (0, 0))) := ⟨by rw [← hw]; exact blk_far K5_7.out (p := ⟨gc, 4, none⟩) (blk_ne K5_7.out KC_7.out (by decide)) _⟩
       have HR8 : Aside0 (Kd.R (Kd.int .i64) 3 w8 w5.heap.size (fun _ => True) (.slice (some ⟨gi, 0, none⟩) P.length ci) P) := ⟨by rw [← hw]; exact Kd.R_mono (Kd.R_far (Kd.R_mono (Kd.R_bound HR7.out) (fun k hk => (fun e => by have h1_ := hk.2.1; have h2_ := blk_lt KC_5.out; omega : k ≠ gc))) (p := ⟨gc, 4, none⟩) (fun _ h => h) _) (fun _ _ => trivial)⟩
       have HB8 : Aside0 (Below W.heap.size W w8) := ⟨by rw [← hw]; exact below_set HB7.out PC.out⟩
       clear hw
       clear m1_ m4_ u4_ hmod hwz hwz2 hne hne2 hne3 hz1
       obtain ⟨s0, s1, s2, s3, s4, s5, s6⟩ := c7 KC_8
       have hTK : (⟨y.f0, (mn : Int), wrap64 ((mn : Int) - (P.length : Int)), wrap64 (16 - (y.f6.length : Int)), ro, P, y.f6⟩ : S42) = takeC y (zn : Int) := by
        have hl5 := HPL.out
        have hu5 := HRY.out.ulen
        have hml := HML.out
        have hl6 := HRY.out.nlen
        unfold takeC
        rw [HMN.out, HP.out, HRO.out, show wrap64 ((mn : Int) - (P.length : Int)) = (mn : Int) - ((y.f5.length : Int) + 1) from by unfold wrap64; omega, show wrap64 (16 - (y.f6.length : Int)) = 16 - (y.f6.length : Int) from by unfold wrap64; omega]
       have hsetf : selvedgeref18_set.f (0 + 1001) l y.f0 (mn : Int) y.f2 y.f3 ro P y.f6 = some (l.set xn (takeC y (zn : Int))) := by
        have h := rset_is l HWH.out.small xn (mn : Int) y.f2 y.f3 ro P y.f6 (by have := HPL.out; have := HRY.out.ulen; omega) (by have := HRY.out.nlen; omega) 0
        rw [← HRI.out, hTK] at h
        exact h
       have hset := fun W_ (hb_ : Below w8.heap.size w8 W_) => selvedgeref18_set.calls (0 + 1001) (some ad) c0 l y.f0 (mn : Int) y.f2 y.f3 ro (some ⟨gi, 0, none⟩) ci P A6 c6 y.f6 _ W_ (Kd.C_below HC.out (HB4.out.trans ((HBW.out.mono HB4.out.size).trans ((HB8.out.mono (Nat.le_trans HB4.out.size HBW.out.size)).trans (hb_.mono (Nat.le_trans HB4.out.size (Nat.le_trans HBW.out.size HB8.out.size))))))) HCC.out (Kd.C_below (Kd.R_reads' HR8.out).2.2 hb_) (Kd.R_reads' HR8.out).2.1 (Kd.C_below G6.out (HB8.out.trans (hb_.mono HB8.out.size))) L6.out hsetf
       clear hTK hsetf
       refine start_ (n := 10) (S := fun w' => w'.cell? ⟨gc, 0, none⟩ = some (.int .i64 y.f0) ∧ w'.cell? ⟨gc, 1, none⟩ = some (.int .i64 (mn : Int)) ∧ w'.cell? ⟨gc, 2, none⟩ = some (.int .i64 y.f2) ∧ w'.cell? ⟨gc, 3, none⟩ = some (.int .i64 y.f3) ∧ w'.cell? ⟨gc, 4, none⟩ = some (.int .i64 ro) ∧ w'.cell? ⟨gc, 5, none⟩ = some (.slice (some ⟨gi, 0, none⟩) P.length ci) ∧ w'.cell? ⟨gc, 6, none⟩ = some (.slice A6 y.f6.length c6)) (ds := [8]) #[false, false, false, false, false, false, false, false, false, false] (by kernel_rfl) rfl rfl ⟨s0, s1, s2, s3, s4, s5, s6⟩ (fun hHeld => ?_); refine with_tabW rt_tab19 rt_bits19 (fun HT_ HW_ => ?_)
       refine pure_ (i := 0) (N := some 94) (v := ?_) (a' := ?_) #[true, false, false, false, false, false, false, false, false, false] rfl rfl (any_of HT_.out (by kernel_rfl)) (fun _ _ _ h => h) (Or.inl ⟨by rfl, ?_⟩) ?_ ?_
       rotate_left
       ·intro w'
        go_simp
        with_reducible rfl
       rotate_left
       ·go_simp
        rfl
       refine take_ (i := 1) (N := some 95) (v := ?_) (a' := ?_) #[true, true, false, false, false, false, false, false, false, false] rfl rfl (take_ofW HT_.out HW_.out (by kernel_rfl)) (fun _ _ _ h => h) (Or.inl ⟨by rfl, ?_⟩) hHeld ?_ ?_
       rotate_left
       ·rintro w' ⟨s0, s1, s2, s3, s4, s5, s6⟩
        go_simp
        with_reducible rfl
       rotate_left
       ·go_simp
        rfl
       refine pure_ (i := 3) (N := some 97) (v := ?_) (a' := ?_) #[true, true, false, true, false, false, false, false, false, false] rfl rfl (any_of HT_.out (by kernel_rfl)) (fun _ _ _ h => h) (Or.inl ⟨by rfl, ?_⟩) ?_ ?_
       rotate_left
       ·intro w'
        go_simp
        with_reducible rfl
       rotate_left
       ·go_simp
        rfl
       refine take_ (i := 4) (N := some 98) (v := ?_) (a' := ?_) #[true, true, false, true, true, false, false, false, false, false] rfl rfl (take_ofW HT_.out HW_.out (by kernel_rfl)) (fun _ _ _ h => h) (Or.inl ⟨by rfl, ?_⟩) hHeld ?_ ?_
       rotate_left
       ·rintro w' ⟨s0, s1, s2, s3, s4, s5, s6⟩
        go_simp
        with_reducible rfl
       rotate_left
       ·go_simp
        rfl
       refine pure_ (i := 5) (N := some 99) (v := ?_) (a' := ?_) #[true, true, false, true, true, true, false, false, false, false] rfl rfl (any_of HT_.out (by kernel_rfl)) (fun _ _ _ h => h) (Or.inl ⟨by rfl, ?_⟩) ?_ ?_
       rotate_left
       ·intro w'
        go_simp
        with_reducible rfl
       rotate_left
       ·go_simp
        rfl
       refine pure_ (i := 6) (N := some 100) (v := ?_) (a' := ?_) #[true, true, false, true, true, true, true, false, false, false] rfl rfl (any_of HT_.out (by kernel_rfl)) (fun _ _ _ h => h) (Or.inl ⟨by rfl, ?_⟩) ?_ ?_
       rotate_left
       ·intro w'
        go_simp
        with_reducible rfl
       rotate_left
       ·go_simp
        rfl
       refine one_ (i := 2) (N := some 96) #[true, true, true, true, true, true, true, false, false, false] rfl rfl (one_of HT_.out (by kernel_rfl)) (by decide) (fun K hK => ?_)
       refine goes_ Try.func53 (by kernel_rfl) rfl #[.slice (some ad) l.length c0, .agg #[.int .i64 y.f0, .int .i64 (mn : Int), .int .i64 y.f2, .int .i64 y.f3, .int .i64 ro, .slice (some ⟨gi, 0, none⟩) P.length ci, .slice A6 y.f6.length c6]] (by rfl) rfl rfl (by (try simp only [List.map_toArray, List.map_cons, List.map_nil]); rfl) ?_
       refine (hset _ (below_drew (Below.refl _ _))).mono ?_
       rintro e w9 ⟨v, rfl, hS, hb⟩
       have HB89 : Aside0 (Below w8.heap.size w8 w9) := ⟨below_step (below_drew (Below.refl _ _)) hb⟩
       have HS9 := Aside0.mk hS
       refine ⟨_, rfl, ?_⟩
       obtain ⟨t0, t1, t2, t3, t4, t5, t6⟩ := hHeld
       have a0 := pw_cell_below hb t0
       have a1 := pw_cell_below hb t1
       have a2 := pw_cell_below hb t2
       have a3 := pw_cell_below hb t3
       have a4 := pw_cell_below hb t4
       have a5 := pw_cell_below hb t5
       have a6 := pw_cell_below hb t6
       clear t0 t1 t2 t3 t4 t5 t6 hb hS hset s0 s1 s2 s3 s4 s5 s6
       have K5_9 := Aside0.mk (blk_below K5_8.out HB89.out)
       have k5_ : w9.cell? ⟨g5, 0, none⟩ = some (.int .i64 0) := (blk_cell K5_9.out 0).trans rfl
       have f5_ := blk_frozen K5_9.out 0
       have k5a_ : w9.cell? ⟨g5, 1, none⟩ = some (.int .i64 0) := (blk_cell K5_9.out 1).trans rfl
       have f5a_ := blk_frozen K5_9.out 1
       refine hK.out _ _ ⟨a0, a1, a2, a3, a4, a5, a6⟩ (fun hHeld => ?_)
       clear hK K
       refine norm_ (a' := ?_) ?_ ?_
       rotate_left
       ·show Act.put _ (some 96) _ = _
        go_simp
        rfl
       refine pure_ (i := 7) (N := some 4) (v := ?_) (a' := ?_) #[true, true, true, true, true, true, true, true, false, false] rfl rfl (any_of HT_.out (by kernel_rfl)) (fun _ _ _ h => h) (Or.inl ⟨by rfl, ?_⟩) ?_ ?_
       rotate_left
       ·intro w'
        go_simp
        with_reducible rfl
       rotate_left
       ·go_simp
        rfl
       refine last_ (i := 8) (N := none) #[true, true, true, true, true, true, true, true, true, false] rfl rfl (one_of HT_.out (by kernel_rfl)) (by decide) (fun K hK => ?_)
       refine skipE_ (w1 := ((w9.setCell ⟨g5, 0, none⟩ (.int .i64 y.f0)).setCell ⟨g5, 1, none⟩ (.int .i64 (zn : Int)))) (by rfl) rfl (by first | (go_simp; done) | (go_simp; rfl)) (fun w10 hw => ?_)
       have K5_10 : Aside0 (w10.heap[g5]? = some (.cells #[.int .i64 y.f0, .int .i64 (zn : Int)] 24 (0, 0))) := ⟨by rw [hw]; exact blk_put2 K5_9.out rfl _ _⟩
       have HS10 : Aside0 (Kd.S k42 42 w10 w.heap.size (fun _ => True) v (l.set xn (takeC y (zn : Int)))) := ⟨by rw [hw]; exact Kd.S_lower (Kd.S_mono (Kd.S_far (Kd.S_far (Kd.S_types HS9.out K5_9.out (by decide)) (p := ⟨g5, 0, none⟩) (fun k hk => hk.2) _) (p := ⟨g5, 1, none⟩) (fun k hk => hk.2) _) (fun _ _ => trivial)) (Nat.le_trans (HB4.out.trans ((HBW.out.mono HB4.out.size).trans (HB8.out.mono (Nat.le_trans HB4.out.size HBW.out.size)))).size (Nat.le_of_eq rfl))⟩
       have HB10 : Aside0 (Below w.heap.size w w10) := ⟨by rw [hw]; exact below_set (below_set (HB4.out.trans ((HBW.out.mono HB4.out.size).trans ((HB8.out.mono (Nat.le_trans HB4.out.size HBW.out.size)).trans (HB89.out.mono (Nat.le_trans HB4.out.size (Nat.le_trans HBW.out.size HB8.out.size)))))) P5.out) P5.out⟩
       clear hw
       refine hK.out _ _ ?_
       clear hK K
       refine pure_ (i := 9) (N := some 6) (v := ?_) (a' := ?_) #[true, true, true, true, true, true, true, true, true, true] rfl rfl (any_of HT_.out (by kernel_rfl)) (fun _ _ _ h => h) (Or.inl ⟨by rfl, ?_⟩) ?_ ?_
       rotate_left
       ·intro w'
        go_simp
        with_reducible rfl
       rotate_left
       ·go_simp
        rfl
       refine done_ (done_of HT_.out (by kernel_rfl)) ?_
       go_wp2
       have c5_ : w10.cell? ⟨g5, 0, none⟩ = some (.int .i64 (xn : Int)) := by rw [← HRI.out]; exact (blk_cell K5_10.out 0).trans rfl
       have c5a_ : w10.cell? ⟨g5, 1, none⟩ = some (.int .i64 (zn : Int)) := (blk_cell K5_10.out 1).trans rfl
       have hfa : freeAt l (gn : Int) (bn : Int) (xn : Int) = some (zn : Int) := by
        rw [HFR.out]
        refine (roundL_find rn mn j (by have := HJ.out; omega) _ (fun t ht => by rw [HPR2.out t ht]; rfl) ?_).trans (by rw [HZN.out])
        rw [HZN.out, HCZ.out]
        rfl
       have hT : takeS l (gn : Int) (bn : Int) = (l.set xn (takeC y (zn : Int)), (xn : Int), (zn : Int), 0) := by
        unfold takeS
        rw [if_neg (by rw [HM0.out]; decide), Int.toNat_natCast, roundL_first gn l.length i HIL.out _ (fun t ht => by rw [HPRE.out t ht]; rfl) (v := ((xn : Int), (zn : Int))) (by rw [HXN.out, hfa]; rfl)]
        show (l.set (xn : Int).toNat (takeC (rd_T42 l (xn : Int)) (zn : Int)), (xn : Int), (zn : Int), (0 : Int)) = _
        rw [HXY.out, Int.toNat_natCast]
       rw [hT]
       refine ⟨rfl, .tuple #[v, .agg #[.int .i64 (xn : Int), .int .i64 (zn : Int)], .int .i64 0], ?_, ⟨_, rfl, HS10.out, HB10.out⟩⟩
       simp [results, Try.f14, go_sem, c5_, c5a_]
/-- What the reference's Take answers, for groups that are not too many. -/
def selvedgeref18_Take.f (l : List S42) (a b : Int) : Option (List S42 × Int × Int × Int) := if SmallL l then some (takeS l a b) else none
theorem selvedgeref18_Take.calls_ (A0 : Option Addr) (c0 : Nat) (l0 : List S42) (a b : Int) (r : List S42 × Int × Int × Int) (w : World) (hr0 : Kd.C k42 w A0 l0.length l0) (hc0 : l0.length ≤ c0) (h : selvedgeref18_Take.f l0 a b = some r) :
  Calls Try.prog 14 #[.slice A0 l0.length c0, .agg #[.int .i64 a, .int .i64 b]] w fun e w' => ∃ v, e = .returned (.tuple #[v, .agg #[.int .i64 r.2.1, .int .i64 r.2.2.1], .int .i64 r.2.2.2]) ∧ Kd.S k42 42 w' w.heap.size (fun _ => True) v r.1 ∧ Below w.heap.size w w' := by
 unfold selvedgeref18_Take.f at h
 by_cases hs : SmallL l0
 ·rw [if_pos hs] at h
  injection h with h
  subst h
  have bad : ∀ n : Int, mayS l0 a b 46 = n → n ≠ 0 → (Calls Try.prog 14 #[.slice A0 l0.length c0, .agg #[.int .i64 a, .int .i64 b]] w fun e w' => e = .returned (.tuple #[.slice none 0 0, .agg #[.int .i64 0, .int .i64 0], .int .i64 n]) ∧ Below w.heap.size w w') →
    Calls Try.prog 14 #[.slice A0 l0.length c0, .agg #[.int .i64 a, .int .i64 b]] w fun e w' => ∃ v, e = .returned (.tuple #[v, .agg #[.int .i64 (takeS l0 a b).2.1, .int .i64 (takeS l0 a b).2.2.1], .int .i64 (takeS l0 a b).2.2.2]) ∧ Kd.S k42 42 w' w.heap.size (fun _ => True) v (takeS l0 a b).1 ∧ Below w.heap.size w w' := by
   intro n hn h0 hc
   have hT : takeS l0 a b = ([], 0, 0, n) := by unfold takeS; rw [hn, if_pos h0]
   rw [hT]
   refine hc.mono ?_
   rintro e w1 ⟨rfl, hb⟩
   exact ⟨_, rfl, Kd.S_nil _ _ _ _ _, hb⟩
  cases hw : wholeB l0 with
  | false => exact bad 3 (by unfold mayS; rw [hw, if_pos rfl]) (by decide) (rtake_wrong A0 c0 l0 a b w hr0 hc0 hs hw)
  | true =>
   have hm : mayS l0 a b 46 = if a < 0 ∨ (l0.length : Int) ≤ a ∨ b < 0 ∨ (rd_T42 l0 a).f1 ≤ b then 2 else 0 := by unfold mayS manyS; rw [hw, if_neg (by decide), if_pos rfl]
   by_cases h1 : a < 0
   ·exact bad 2 (by rw [hm, if_pos (.inl h1)]) (by decide) (rtake_a0 A0 c0 l0 a b w hr0 hc0 hs hw h1)
   ·by_cases h2 : (l0.length : Int) ≤ a
    ·exact bad 2 (by rw [hm, if_pos (.inr (.inl h2))]) (by decide) (rtake_a1 A0 c0 l0 a b w hr0 hc0 hs hw (by omega) h2)
    ·by_cases h3 : b < 0
     ·exact bad 2 (by rw [hm, if_pos (.inr (.inr (.inl h3)))]) (by decide) (rtake_b0 A0 c0 l0 a b w hr0 hc0 hs hw (by omega) (by omega) h3)
     ·by_cases h4 : (rd_T42 l0 a).f1 ≤ b
      ·exact bad 2 (by rw [hm, if_pos (.inr (.inr (.inr h4)))]) (by decide) (rtake_big A0 c0 l0 a b w hr0 hc0 hs hw (by omega) (by omega) (by omega) h4)
      ·exact rtake_ok A0 c0 l0 a b w hr0 hc0 hw (by rw [hm, if_neg (by omega)])
 ·rw [if_neg hs] at h; cases h
theorem selvedgeref18_Take.calls (A0 : Option Addr) (c0 : Nat) (l0 : List S42) (a b : Int) (r1 : List S42) (r2 r3 r4 : Int) (w : World) (hr0 : Kd.C k42 w A0 l0.length l0) (hc0 : l0.length ≤ c0) (h : selvedgeref18_Take.f l0 a b = some (r1, r2, r3, r4)) :
  Calls Try.prog 14 #[.slice A0 l0.length c0, .agg #[.int .i64 a, .int .i64 b]] w fun e w' => ∃ v, e = .returned (.tuple #[v, .agg #[.int .i64 r2, .int .i64 r3], .int .i64 r4]) ∧ Kd.S k42 42 w' w.heap.size (fun _ => True) v r1 ∧ Below w.heap.size w w' := selvedgeref18_Take.calls_ A0 c0 l0 a b (r1, r2, r3, r4) w hr0 hc0 h
end Go.Proofs.Ytehjmmedghcndaa.PG
