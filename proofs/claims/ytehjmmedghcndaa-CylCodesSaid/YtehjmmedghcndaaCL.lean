import Derived.Test.YtehjmmedghcndaaCU
import Derived.Test.YtehjmmedghcndaaPGx1
import Derived.Test.YtehjmmedghcndaaLT
/-! selvedgelaw18.live. -/
namespace Go.Proofs.Ytehjmmedghcndaa.PG
open Go.RowKit Go.Proofs.YtehjmmedghcndaaW.PrintWords Go.Proofs.YtehjmmedghcndaaW.PrintLast Go.Proofs.YtehjmmedghcndaaW.PrintMore
attribute [local go_sem] Oper.semAt_some
attribute [local go_sem high] eqA24
/-- Two new groups; with a block taken. -/
def live2 : List S42 := [⟨0, 4, 4, 16, 0, [], []⟩, ⟨1, 4, 4, 16, 0, [], []⟩]
def live3 : List S42 := [⟨0, 4, 3, 16, 3, [2], []⟩, ⟨1, 4, 4, 16, 0, [], []⟩]
theorem live2_whole : wholeB live2 = true := by decide
theorem live3_whole : wholeB live3 = true := by decide
theorem live2_take : cyl_Take.f live2 0 2 = some (live3, 0, 2, 0) := by
 unfold cyl_Take.f
 rw [if_pos (WholeP.small ((whole_iff _).1 live2_whole))]
 rfl
theorem live2_C (W : World) (g : Nat) (A5a A6a A5b A6b : Option Addr) (c5a c6a c5b c6b : Nat) (h : W.heap[g]? = some (.cells #[.int .i64 0, .int .i64 4, .int .i64 4, .int .i64 16, .int .i64 0, .slice A5a 0 c5a, .slice A6a 0 c6a, .int .i64 1, .int .i64 4, .int .i64 4, .int .i64 16, .int .i64 0, .slice A5b 0 c5b, .slice A6b 0 c6b] 42 (0, 0))) : Kd.C k42 W (some ⟨g, 0, none⟩) live2.length live2 := by
 have hn : ∀ A : Option Addr, (Kd.int .i64).C W A ([] : List Int).length [] := fun A => ⟨rfl, by decide, fun h => absurd h (Nat.lt_irrefl 0)⟩
 refine ⟨rfl, by decide, fun _ => ⟨_, rfl, fun j p hp => ?_⟩⟩
 match j, hp with
 | 0, hp =>
  obtain rfl := Option.some.inj hp
  refine ⟨_, rfl, k42_mk W ⟨0, 4, 4, 16, 0, [], []⟩ (A5 := A5a) (c5 := c5a) (Nat.zero_le _) (hn _) (A6 := A6a) (c6 := c6a) (Nat.zero_le _) (hn _), fun i u hu => ?_⟩
  match i, hu with
  | 0, hu | 1, hu | 2, hu | 3, hu | 4, hu | 5, hu | 6, hu => exact (blk_cell h _).trans hu
  | i + 7, hu => cases hu
 | 1, hp =>
  obtain rfl := Option.some.inj hp
  refine ⟨_, rfl, k42_mk W ⟨1, 4, 4, 16, 0, [], []⟩ (A5 := A5b) (c5 := c5b) (Nat.zero_le _) (hn _) (A6 := A6b) (c6 := c6b) (Nat.zero_le _) (hn _), fun i u hu => ?_⟩
  match i, hu with
  | 0, hu | 1, hu | 2, hu | 3, hu | 4, hu | 5, hu | 6, hu => exact (blk_cell h _).trans hu
  | i + 7, hu => cases hu
 | j + 2, hp => cases hp
theorem new_0 : cyl_New.f (0 + 1003) 0 4 = some (0, 4, 4, 16, 0, [], [], 0) := by
 have h := right_is ⟨0, 4, 4, 16, 0, [], []⟩ ⟨by decide, by decide⟩ 0
 unfold cyl_New.f
 rw [h]
 rfl
theorem new_1 : cyl_New.f (0 + 1003) 1 4 = some (1, 4, 4, 16, 0, [], [], 0) := by
 have h := right_is ⟨1, 4, 4, 16, 0, [], []⟩ ⟨by decide, by decide⟩ 0
 unfold cyl_New.f
 rw [h]
 rfl
set_option maxHeartbeats 8000000 in
set_option maxRecDepth 100000 in
theorem live_ok (w : World) : Calls Try.prog 17 #[] w fun e w' => e = .returned (.bool true) ∧ Below w.heap.size w w' := by
 have hu42 := Try.underlying42
 have hu24 := Try.underlying24
 go_enter Try.func17, Try.ntmps17
 go_upto_region 2 with (first | (go_at_call 36; refine (cyl_New.calls (0 + 1003) 0 4 0 4 4 16 0 [] [] 0 w new_0).mono ?_; rintro e w1 ⟨v5, v6, rfl, hr5, hr6, hb⟩; obtain ⟨A5a, c5a, rfl⟩ := Kd.R_slice hr5; obtain ⟨A6a, c6a, rfl⟩ := Kd.R_slice hr6; have R5a := Aside0.mk hr5; have R6a := Aside0.mk hr6; have HB1 := Aside0.mk hb; clear hr5 hr6 hb) | ((with_reducible refine gate_dst (N := 1) rfl ?_); refine box_event rfl (N := 1) rfl (cs := #[.int .i64 0, .int .i64 0, .int .i64 0, .int .i64 0, .int .i64 0, .slice none 0 0, .slice none 0 0]) (t := 42) (by first | (go_simp; done) | (go_simp; rfl)) ?_; intro g1 hg w2 hbox hb; have K1 := Aside0.mk hbox; have HB2 := Aside0.mk (below_step HB1.out hb); have P1 := Aside0.mk (show w.heap.size ≤ g1 by rw [hg]; exact HB1.out.size); have R5b := Aside0.mk (Kd.C_below (Kd.R_reads' R5a.out).2.2 hb); have R6b := Aside0.mk (Kd.C_below (Kd.R_reads' R6a.out).2.2 hb); obtain ⟨r0, r1, r2, r3, r4, r5, r6, z0, z1, z2, z3, z4, z5, z6⟩ := cf7 K1; clear hb hbox hg))
 obtain ⟨w3, hw⟩ : ∃ w_, (((((((w2.setCell ⟨g1, 0, none⟩ (.int .i64 0)).setCell ⟨g1, 1, none⟩ (.int .i64 4)).setCell ⟨g1, 2, none⟩ (.int .i64 4)).setCell ⟨g1, 3, none⟩ (.int .i64 16)).setCell ⟨g1, 4, none⟩ (.int .i64 0)).setCell ⟨g1, 5, none⟩ (.slice A5a 0 c5a)).setCell ⟨g1, 6, none⟩ (.slice A6a 0 c6a)) = w_ := ⟨_, rfl⟩
 rw [hw]
 have K13 := Aside0.mk (show w3.heap[g1]? = some (.cells #[.int .i64 0, .int .i64 4, .int .i64 4, .int .i64 16, .int .i64 0, .slice A5a 0 c5a, .slice A6a 0 c6a] 42 (0, 0)) by rw [← hw]; exact blk_put7 K1.out rfl _ _ _ _ _ _ _)
 have HB3 := Aside0.mk (show Below w.heap.size w w3 by rw [← hw]; exact below_set7 HB2.out P1.out 0 _ _ _ _ _ _ _)
 clear hw r0 r1 r2 r3 r4 r5 r6 z0 z1 z2 z3 z4 z5 z6 K1 HB2
 go_upto_region 3 with (first | (go_at_call 36; refine (cyl_New.calls (0 + 1003) 1 4 1 4 4 16 0 [] [] 0 w3 new_1).mono ?_; rintro e w4 ⟨v5, v6, rfl, hr5, hr6, hb⟩; obtain ⟨A5b, c5b, rfl⟩ := Kd.R_slice hr5; obtain ⟨A6b, c6b, rfl⟩ := Kd.R_slice hr6; have R5b := Aside0.mk hr5; have R6b := Aside0.mk hr6; have K14 := Aside0.mk (blk_below K13.out hb); have HB4 := Aside0.mk (below_step HB3.out hb); clear hr5 hr6 hb) | ((with_reducible refine gate_dst (N := 3) rfl ?_); refine box_event rfl (N := 3) rfl (cs := #[.int .i64 0, .int .i64 0, .int .i64 0, .int .i64 0, .int .i64 0, .slice none 0 0, .slice none 0 0]) (t := 42) (by first | (go_simp; done) | (go_simp; rfl)) ?_; intro g3 hg w5 hbox hb; have K3 := Aside0.mk hbox; have K15 := Aside0.mk (blk_below K14.out hb); have HB5 := Aside0.mk (below_step HB4.out hb); have P3 := Aside0.mk (show w.heap.size ≤ g3 by rw [hg]; exact HB4.out.size); have D13 := Aside0.mk (show g1 ≠ g3 by rw [hg]; have := blk_lt K14.out; omega); obtain ⟨r0, r1, r2, r3, r4, r5, r6, z0, z1, z2, z3, z4, z5, z6⟩ := cf7 K3; clear hb hbox hg))
 obtain ⟨w6, hw⟩ : ∃ w_, (((((((w5.setCell ⟨g3, 0, none⟩ (.int .i64 1)).setCell ⟨g3, 1, none⟩ (.int .i64 4)).setCell ⟨g3, 2, none⟩ (.int .i64 4)).setCell ⟨g3, 3, none⟩ (.int .i64 16)).setCell ⟨g3, 4, none⟩ (.int .i64 0)).setCell ⟨g3, 5, none⟩ (.slice A5b 0 c5b)).setCell ⟨g3, 6, none⟩ (.slice A6b 0 c6b)) = w_ := ⟨_, rfl⟩
 rw [hw]
 have K36 := Aside0.mk (show w6.heap[g3]? = some (.cells #[.int .i64 1, .int .i64 4, .int .i64 4, .int .i64 16, .int .i64 0, .slice A5b 0 c5b, .slice A6b 0 c6b] 42 (0, 0)) by rw [← hw]; exact blk_put7 K3.out rfl _ _ _ _ _ _ _)
 have K16 := Aside0.mk (show w6.heap[g1]? = some (.cells #[.int .i64 0, .int .i64 4, .int .i64 4, .int .i64 16, .int .i64 0, .slice A5a 0 c5a, .slice A6a 0 c6a] 42 (0, 0)) by rw [← hw]; exact blk_far7 K15.out D13.out 0 _ _ _ _ _ _ _)
 have HB6 := Aside0.mk (show Below w.heap.size w w6 by rw [← hw]; exact below_set7 HB5.out P3.out 0 _ _ _ _ _ _ _)
 clear hw r0 r1 r2 r3 r4 r5 r6 z0 z1 z2 z3 z4 z5 z6 K3 HB5
 obtain ⟨m0, m1, m2, m3, m4, m5, m6⟩ := c7 K16
 obtain ⟨n0, n1, n2, n3, n4, n5, n6⟩ := c7 K36
 go_upto_region 4 with (first | (go_at_call 13; refine (cyl_Take.calls (some ⟨w6.heap.size, 0, none⟩) 2 live2 0 2 _ 0 2 0 _ (live2_C _ _ _ _ _ _ _ _ _ _ (blk_new w6 _)) (by decide) live2_take).mono ?_; rintro e w8 ⟨v, rfl, hS, hb⟩; obtain ⟨go, co, rfl, _, _, _⟩ := Kd.S_form hS (by decide); have HS8 := Aside0.mk hS; have HB8 : Aside0 (Below w.heap.size w w8) := ⟨below_step (HB6.out.alloc HB6.out.size _) hb⟩; clear hS hb) | ((with_reducible refine gate_dst (N := 6) rfl ?_); refine box_event rfl (N := 6) rfl (cs := #[.int .i64 0, .int .i64 0]) (t := 24) (by first | (go_simp; done) | (go_simp; rfl)) ?_; intro g6 hg w9 hbox hb; have K6 := Aside0.mk hbox; have HS9 := Aside0.mk (Kd.S_below HS8.out hb); have HB9 := Aside0.mk (below_step HB8.out hb); have P6 := Aside0.mk (show w.heap.size ≤ g6 by rw [hg]; exact HB8.out.size); obtain ⟨r0, r1, z0, z1⟩ := cf2 K6; clear hb hbox hg))
 obtain ⟨w10, hw⟩ : ∃ w_, (w9.setCell ⟨g6, 0, none⟩ (.int .i64 0)).setCell ⟨g6, 1, none⟩ (.int .i64 2) = w_ := ⟨_, rfl⟩
 rw [hw]
 have K610 := Aside0.mk (show w10.heap[g6]? = some (.cells #[.int .i64 0, .int .i64 2] 24 (0, 0)) by rw [← hw]; exact blk_put2 K6.out rfl _ _)
 have HB10 := Aside0.mk (show Below w.heap.size w w10 by rw [← hw]; exact below_set (below_set HB9.out P6.out) P6.out)
 have hS10 : Kd.S k42 42 w10 0 (fun _ => True) (.slice (some ⟨go, 0, none⟩) live3.length co) live3 := by rw [← hw]; exact Kd.S_lower (Kd.S_mono (Kd.S_far (Kd.S_far (Kd.S_types HS9.out K6.out (by decide)) (p := ⟨g6, 0, none⟩) (fun k hk => hk.2) _) (p := ⟨g6, 1, none⟩) (fun k hk => hk.2) _) (fun _ _ => trivial)) (Nat.zero_le _)
 have hC10 := (Kd.S_reads' hS10).2.2
 have hl10 := (Kd.S_reads' hS10).2.1
 obtain ⟨ad, A5, c5, A6, c6, ea, y0, y1, y2, y3, y4, y5, y6, _, _, _, _⟩ := at_T42 hC10 (0 : Int) (by decide) (by decide)
 cases ea
 obtain ⟨e0_, e1_⟩ := c2 K610
 have x2 : w10.cell? ⟨go, 2, none⟩ = some (.int .i64 3) := y2
 have x4 : w10.cell? ⟨go, 4, none⟩ = some (.int .i64 3) := y4
 have hwh := whole_is live3 (WholeP.small ((whole_iff _).1 live3_whole)) 0
 rw [live3_whole] at hwh
 have HC10 := Aside0.mk hC10
 have HL10 := Aside0.mk hl10
 have HWH := Aside0.mk hwh
 have hl3 : live3.length = 2 := rfl
 clear hw hS10 hC10 hl10 hwh y0 y1 y2 y3 y4 y5 y6 r0 r1 z0 z1 m0 m1 m2 m3 m4 m5 m6 n0 n1 n2 n3 n4 n5 n6
 go_wp2_with (go_at_call 19; refine (cyl_Whole.calls (0 + 2005) (some ⟨go, 0, none⟩) co live3 true w10 HC10.out HL10.out HWH.out).mono ?_; rintro e w11 ⟨rfl, hb⟩; have HB11 := Aside0.mk (below_step HB10.out hb); clear hb)
 go_ret
 exact ⟨rfl, HB11.out⟩
def selvedgelaw18_live.f : Option Bool := some true
theorem selvedgelaw18_live.calls (r : Bool) (w : World) (h : selvedgelaw18_live.f = some r) : Calls Try.prog 17 #[] w fun e w' => e = .returned (.bool r) ∧ Below w.heap.size w w' := by
 obtain rfl := Option.some.inj h
 exact live_ok w
end Go.Proofs.Ytehjmmedghcndaa.PG
