import Derived.Test.YtehjmmedghcndaaDC
import Derived.Test.YtehjmmedghcndaaLT
/-! cyl.Spread. -/
namespace Go.Proofs.Ytehjmmedghcndaa.PG
open Go.RowKit Go.Proofs.YtehjmmedghcndaaW.PrintWords Go.Proofs.YtehjmmedghcndaaW.PrintLast Go.Proofs.YtehjmmedghcndaaW.PrintMore
attribute [local go_sem] Oper.semAt_some
set_option maxHeartbeats 4000000 in
set_option maxRecDepth 100000 in
theorem less_calls (a0 a1 a2 a3 a4 : Int) (aA5 : Option Addr) (an5 ac5 : Nat) (aA6 : Option Addr) (an6 ac6 : Nat) (b0 b1 b2 b3 b4 : Int) (bA5 : Option Addr) (bn5 bc5 : Nat) (bA6 : Option Addr) (bn6 bc6 : Nat) (w : World) :
  Calls Try.prog 58 #[.agg #[.int .i64 a0, .int .i64 a1, .int .i64 a2, .int .i64 a3, .int .i64 a4, .slice aA5 an5 ac5, .slice aA6 an6 ac6], .agg #[.int .i64 b0, .int .i64 b1, .int .i64 b2, .int .i64 b3, .int .i64 b4, .slice bA5 bn5 bc5, .slice bA6 bn6 bc6]] w fun e w' => e = .returned (.int .i64 (wrap64 (a2 - b2))) ∧ Below w.heap.size w w' := by
 have hu42 := Try.underlying42
 go_enter Try.func58, Try.ntmps58
 go_upto_region 1 with (first | ((with_reducible refine gate_dst (N := 2) rfl ?_); refine box_event rfl (N := 2) rfl (cs := #[.int .i64 a0, .int .i64 a1, .int .i64 a2, .int .i64 a3, .int .i64 a4, .slice aA5 an5 ac5, .slice aA6 an6 ac6]) (t := 42) (by first | (go_simp; done) | (go_simp; rfl)) ?_; intro ga hg w1 hbox hb; have K2_ := Aside0.mk hbox; have HB1 := Aside0.mk hb; clear hb hbox hg) | ((with_reducible refine gate_dst (N := 3) rfl ?_); refine box_event rfl (N := 3) rfl (cs := #[.int .i64 b0, .int .i64 b1, .int .i64 b2, .int .i64 b3, .int .i64 b4, .slice bA5 bn5 bc5, .slice bA6 bn6 bc6]) (t := 42) (by first | (go_simp; done) | (go_simp; rfl)) ?_; intro gb hg w2 hbox hb; have K3_ := Aside0.mk hbox; have K2_2 := Aside0.mk (blk_below K2_.out hb); have HB2 := Aside0.mk (below_step HB1.out hb); clear hb hbox hg))
 have c2 : w2.cell? ⟨ga, 2, none⟩ = some (.int .i64 a2) := (blk_cell K2_2.out 2).trans rfl
 have d2 : w2.cell? ⟨gb, 2, none⟩ = some (.int .i64 b2) := (blk_cell K3_.out 2).trans rfl
 go_wp2
 go_ret
 exact ⟨rfl, HB2.out⟩
def mx59_T7 : Bool × List (List Nat × List Nat) := (true, [([], []), ([], []), ([], []), ([1, 2], [1, 2]), ([3], [3]), ([], []), ([0, 4, 5], [0, 4, 5]), ([6], [6])])
def mx59_B7 : List Nat := [0, 0, 0, 6, 14, 0, 63, 127]
theorem mx59_tab7 : rtab .any (opsOf Try.f59 7) = mx59_T7 := by kernel_rfl
theorem mx59_bits7 : waitsOk mx59_T7.2 mx59_B7 = true := by kernel_rfl
set_option maxHeartbeats 8000000 in
set_option maxRecDepth 100000 in
theorem max_calls (A0 : Option Addr) (c0 : Nat) (l : List S42) (w : World) (hC : Kd.C k42 w A0 l.length l) (hc0 : l.length ≤ c0) (hw : WholeP l) :
  Calls Try.prog 59 #[.slice A0 l.length c0, .func (.func 58) #[] #[]] w fun e w' => (∃ (a0 a1 a2 a3 a4 : Int) (A5 : Option Addr) (n5 c5 : Nat) (A6 : Option Addr) (n6 c6 : Nat), e = .returned (.agg #[.int .i64 a0, .int .i64 a1, .int .i64 a2, .int .i64 a3, .int .i64 a4, .slice A5 n5 c5, .slice A6 n6 c6]) ∧ (∃ b : Nat, ∃ hb : b < l.length, l[b].f2 = a2 ∧ ∀ j (hj : j < l.length), l[j].f2 ≤ a2)) ∧ Below w.heap.size w w' := by
 have hpos := hw.n0
 have hn16 := hw.n1
 have HC := Aside0.mk hC
 have HCC := Aside0.mk hc0
 have HW := Aside0.mk hw
 have hat := fun W (hb : Below w.heap.size w W) => at_T42 (Kd.C_below HC.out hb) (0 : Int) (by omega) (by omega)
 have hy0 := rdT_at l 0 (by omega)
 simp only [Int.toNat_zero, Nat.zero_mul] at hat
 rw [show (0 : Int) = ((0 : Nat) : Int) from rfl, hy0] at hat
 obtain ⟨y, hy⟩ : ∃ y, l[0] = y := ⟨_, rfl⟩
 rw [hy] at hat
 have HY := Aside0.mk hy
 have d0 : decide ((l.length : Int) < 1) = false := decide_eq_false (by omega)
 have q0 : ((0 : Int) < (l.length : Int)) = True := eq_true (by omega)
 have q0b : (0 < l.length) = True := eq_true (by omega)
 clear hC hc0 hw hy hy0
 have hu42 := Try.underlying42
 go_enter Try.func59, Try.ntmps59
 go_upto_region 4 with (first | ((with_reducible refine gate_dst (N := 4) rfl ?_); refine box_event rfl (N := 4) rfl (cs := #[.int .i64 0, .int .i64 0, .int .i64 0, .int .i64 0, .int .i64 0, .slice none 0 0, .slice none 0 0]) (t := 42) (by first | (go_simp; done) | (go_simp; rfl)) ?_; intro g4 hg w1 hbox hb; have K4_1 := Aside0.mk hbox; have HB1 := Aside0.mk hb; have P4 := Aside0.mk (show w.heap.size ≤ g4 by omega); obtain ⟨ad, yA5, yc5, yA6, yc6, rfl, y0, y1, y2, y3, y4, y5, y6, _, _, _, _⟩ := hat w1 hb; clear hat; have ez : ad.add 0 = ad := rfl; rw [ez] at y0 y1 y2 y3 y4 y5 y6; clear ez; clear hb hbox hg) | ((with_reducible refine gate_dst (N := 5) rfl ?_); refine box_event rfl (N := 5) rfl (cs := #[.int .i64 0, .int .i64 0, .int .i64 0, .int .i64 0, .int .i64 0, .slice none 0 0, .slice none 0 0]) (t := 42) (by first | (go_simp; done) | (go_simp; rfl)) ?_; intro g5 hg w2 hbox hb; have K5_2 := Aside0.mk hbox; have K4_2 := Aside0.mk (blk_below K4_1.out hb); have HB2 := Aside0.mk (below_step HB1.out hb); have P5 := Aside0.mk (show w.heap.size ≤ g5 by rw [hg]; exact HB1.out.size); have D45 := Aside0.mk (show g4 ≠ g5 by rw [hg]; have := blk_lt K4_1.out; omega); obtain ⟨r0, r1, r2, r3, r4, r5, r6, z0, z1, z2, z3, z4, z5, z6⟩ := cf7 K5_2; clear K4_1 HB1; clear hb hbox hg))
 obtain ⟨w3, hw_⟩ : ∃ w_, (((((((w2.setCell ⟨g5, 0, none⟩ (.int .i64 y.f0)).setCell ⟨g5, 1, none⟩ (.int .i64 y.f1)).setCell ⟨g5, 2, none⟩ (.int .i64 y.f2)).setCell ⟨g5, 3, none⟩ (.int .i64 y.f3)).setCell ⟨g5, 4, none⟩ (.int .i64 y.f4)).setCell ⟨g5, 5, none⟩ (.slice yA5 y.f5.length yc5)).setCell ⟨g5, 6, none⟩ (.slice yA6 y.f6.length yc6)) = w_ := ⟨_, rfl⟩
 rw [hw_]
 have K5_3 : Aside0 (w3.heap[g5]? = some (.cells #[.int .i64 y.f0, .int .i64 y.f1, .int .i64 y.f2, .int .i64 y.f3, .int .i64 y.f4, .slice yA5 y.f5.length yc5, .slice yA6 y.f6.length yc6] 42 (0, 0))) := ⟨by rw [← hw_]; exact blk_put7 K5_2.out rfl _ _ _ _ _ _ _⟩
 have K4_3 : Aside0 (w3.heap[g4]? = some (.cells #[.int .i64 0, .int .i64 0, .int .i64 0, .int .i64 0, .int .i64 0, .slice none 0 0, .slice none 0 0] 42 (0, 0))) := ⟨by rw [← hw_]; exact blk_far7 K4_2.out D45.out 0 _ _ _ _ _ _ _⟩
 have HB3 : Aside0 (Below w.heap.size w w3) := ⟨by rw [← hw_]; exact below_set7 HB2.out P5.out 0 _ _ _ _ _ _ _⟩
 clear hw_ K5_2 K4_2 HB2 r0 z0 r1 z1 r2 z2 r3 z3 r4 z4 r5 z5 r6 z6 y0 y1 y2 y3 y4 y5 y6 q0 q0b d0
 go_wp2
 go_loopg [6] (l.length - 1) (fun kq v6 w' => ∃ (W : World) (i b : Nat), W = w' ∧ i + kq = l.length ∧ 1 ≤ i ∧ b < i ∧ v6 = .int .i64 (i : Int) ∧ Aside0 (∃ (hb : b < l.length) (a5 : Option Addr) (m5 : Nat) (a6 : Option Addr) (m6 : Nat), W.heap[g5]? = some (.cells #[.int .i64 l[b].f0, .int .i64 l[b].f1, .int .i64 l[b].f2, .int .i64 l[b].f3, .int .i64 l[b].f4, .slice a5 l[b].f5.length m5, .slice a6 l[b].f6.length m6] 42 (0, 0)) ∧ ∀ j (hj : j < l.length), j < i → l[j].f2 ≤ l[b].f2) ∧ Aside0 (W.heap[g4]? = some (.cells #[.int .i64 0, .int .i64 0, .int .i64 0, .int .i64 0, .int .i64 0, .slice none 0 0, .slice none 0 0] 42 (0, 0))) ∧ Aside0 (Below w.heap.size w W))
 case atStart => exact ⟨w3, 1, 0, rfl, by omega, Nat.le_refl _, by omega, rfl, ⟨by omega, yA5, yc5, yA6, yc6, by rw [HY.out]; exact K5_3.out, fun j hj hj1 => by
  obtain rfl : j = 0 := by omega
  exact Int.le_refl _⟩, K4_3, HB3⟩
 case round =>
  obtain ⟨W, i, b, rfl, hi, hi1, hbi, rfl, HQ, K4_W, HBW⟩ := hrel
  obtain ⟨hbl, xA5, xc5, xA6, xc6, K5_, hmax⟩ := HQ.out
  have K5_W := Aside0.mk K5_
  have HMAX := Aside0.mk hmax
  clear K5_ hmax
  obtain ⟨x, hx⟩ : ∃ x, l[b] = x := ⟨_, rfl⟩
  rw [hx] at K5_W HMAX
  have HX := Aside0.mk hx
  clear hx HQ
  obtain ⟨s0, s1, s2, s3, s4, s5, s6⟩ := c7 K5_W
  obtain ⟨r0, r1, r2, r3, r4, r5, r6, z0, z1, z2, z3, z4, z5, z6⟩ := cf7 K4_W
  cases gk with
  | zero =>
   obtain rfl : i = l.length := by omega
   have d1 : decide ((l.length : Int) < (l.length : Int)) = false := decide_eq_false (by omega)

   go_wp2
   obtain ⟨w4, hw_⟩ : ∃ w_, (((((((W.setCell ⟨g4, 0, none⟩ (.int .i64 x.f0)).setCell ⟨g4, 1, none⟩ (.int .i64 x.f1)).setCell ⟨g4, 2, none⟩ (.int .i64 x.f2)).setCell ⟨g4, 3, none⟩ (.int .i64 x.f3)).setCell ⟨g4, 4, none⟩ (.int .i64 x.f4)).setCell ⟨g4, 5, none⟩ (.slice xA5 x.f5.length xc5)).setCell ⟨g4, 6, none⟩ (.slice xA6 x.f6.length xc6)) = w_ := ⟨_, rfl⟩
   rw [hw_]
   have K4_4 : w4.heap[g4]? = some (.cells #[.int .i64 x.f0, .int .i64 x.f1, .int .i64 x.f2, .int .i64 x.f3, .int .i64 x.f4, .slice xA5 x.f5.length xc5, .slice xA6 x.f6.length xc6] 42 (0, 0)) := by rw [← hw_]; exact blk_put7 K4_W.out rfl _ _ _ _ _ _ _
   have HB4 : Below w.heap.size w w4 := by rw [← hw_]; exact below_set7 HBW.out P4.out 0 _ _ _ _ _ _ _
   have t0 : w4.cell? ⟨g4, 0, none⟩ = some (.int .i64 x.f0) := (blk_cell K4_4 0).trans rfl
   have t1 : w4.cell? ⟨g4, 1, none⟩ = some (.int .i64 x.f1) := (blk_cell K4_4 1).trans rfl
   have t2 : w4.cell? ⟨g4, 2, none⟩ = some (.int .i64 x.f2) := (blk_cell K4_4 2).trans rfl
   have t3 : w4.cell? ⟨g4, 3, none⟩ = some (.int .i64 x.f3) := (blk_cell K4_4 3).trans rfl
   have t4 : w4.cell? ⟨g4, 4, none⟩ = some (.int .i64 x.f4) := (blk_cell K4_4 4).trans rfl
   have t5 : w4.cell? ⟨g4, 5, none⟩ = some (.slice xA5 x.f5.length xc5) := (blk_cell K4_4 5).trans rfl
   have t6 : w4.cell? ⟨g4, 6, none⟩ = some (.slice xA6 x.f6.length xc6) := (blk_cell K4_4 6).trans rfl
   refine ⟨rfl, .agg #[.int .i64 x.f0, .int .i64 x.f1, .int .i64 x.f2, .int .i64 x.f3, .int .i64 x.f4, .slice xA5 x.f5.length xc5, .slice xA6 x.f6.length xc6], ?_, ⟨_, _, _, _, _, _, _, _, _, _, _, rfl, b, hbl, by rw [HX.out], fun j hj => HMAX.out j hj hj⟩, HB4⟩
   simp [results, Try.f59, go_sem, t0, t1, t2, t3, t4, t5, t6]
  | succ k1 =>
   have hil : i < l.length := by omega
   have hxb := (HW.out.at_ b hbl).2.f2b
   rw [HX.out] at hxb
   have hib := (HW.out.at_ i hil).2.f2b
   have hat := at_T42 (Kd.C_below HC.out HBW.out) (i : Int) (by omega) (by omega)
   simp only [Int.toNat_natCast] at hat
   rw [rdT_at l i hil] at hat
   obtain ⟨y, hy⟩ : ∃ y, l[i] = y := ⟨_, rfl⟩
   rw [hy] at hat hib
   have HYI := Aside0.mk hy
   obtain ⟨ad', yA5', yc5', yA6', yc6', ea, y0, y1, y2, y3, y4, y5, y6, _, _, _, _⟩ := hat
   cases ea
   have p1 : (0 ≤ (i : Int)) = True := eq_true (by omega)
   have q1 : ((i : Int) < (l.length : Int)) = True := eq_true (by omega)
   have q1b : (i < l.length) = True := eq_true hil
   have hwr : wrap64 (y.f2 - x.f2) = y.f2 - x.f2 := by unfold wrap64; omega
   have ewi : Aside0 (wrap64 ((i : Int) + 1) = ((i + 1 : Nat) : Int)) := ⟨w64s i (by omega)⟩
   have d1 : decide ((i : Int) < (l.length : Int)) = true := decide_eq_true (by omega)
   have hcal := fun W_ => less_calls y.f0 y.f1 y.f2 y.f3 y.f4 yA5' y.f5.length yc5' yA6' y.f6.length yc6' x.f0 x.f1 x.f2 x.f3 x.f4 xA5 x.f5.length xc5 xA6 x.f6.length xc6 W_
   rw [hwr] at hcal
   have HIL := Aside0.mk hil
   have HXB := Aside0.mk hxb
   have HIB := Aside0.mk hib
   clear hwr hy hxb hib
   go_upto_region 7 with (fail)
   refine start_ (n := 8) (S := fun w' => w'.cell? (ad.add (i * 7)) = some (.int .i64 y.f0) ∧ w'.cell? ⟨(ad.add (i * 7)).block, (ad.add (i * 7)).off + 1, none⟩ = some (.int .i64 y.f1) ∧ w'.cell? ⟨(ad.add (i * 7)).block, (ad.add (i * 7)).off + 2, none⟩ = some (.int .i64 y.f2) ∧ w'.cell? ⟨(ad.add (i * 7)).block, (ad.add (i * 7)).off + 3, none⟩ = some (.int .i64 y.f3) ∧ w'.cell? ⟨(ad.add (i * 7)).block, (ad.add (i * 7)).off + 4, none⟩ = some (.int .i64 y.f4) ∧ w'.cell? ⟨(ad.add (i * 7)).block, (ad.add (i * 7)).off + 5, none⟩ = some (.slice yA5' y.f5.length yc5') ∧ w'.cell? ⟨(ad.add (i * 7)).block, (ad.add (i * 7)).off + 6, none⟩ = some (.slice yA6' y.f6.length yc6') ∧ w'.cell? ⟨g5, 0, none⟩ = some (.int .i64 x.f0) ∧ w'.cell? ⟨g5, 1, none⟩ = some (.int .i64 x.f1) ∧ w'.cell? ⟨g5, 2, none⟩ = some (.int .i64 x.f2) ∧ w'.cell? ⟨g5, 3, none⟩ = some (.int .i64 x.f3) ∧ w'.cell? ⟨g5, 4, none⟩ = some (.int .i64 x.f4) ∧ w'.cell? ⟨g5, 5, none⟩ = some (.slice xA5 x.f5.length xc5) ∧ w'.cell? ⟨g5, 6, none⟩ = some (.slice xA6 x.f6.length xc6)) (ds := []) #[false, false, false, false, false, false, false, false] (by kernel_rfl) rfl rfl ⟨y0, y1, y2, y3, y4, y5, y6, s0, s1, s2, s3, s4, s5, s6⟩ (fun hHeld => ?_); refine with_tabW mx59_tab7 mx59_bits7 (fun HT_ HW_ => ?_)
   refine pure_ (i := 0) (N := some 20) (v := ?_) (a' := ?_) #[true, false, false, false, false, false, false, false] rfl rfl (any_of HT_.out (by kernel_rfl)) (fun _ _ _ h => h) (Or.inl ⟨by rfl, ?_⟩) ?_ ?_
   rotate_left
   ·intro w'
    go_simp
    with_reducible rfl
   rotate_left
   ·go_simp
    rfl
   refine pure_ (i := 1) (N := some 21) (v := ?_) (a' := ?_) #[true, true, false, false, false, false, false, false] rfl rfl (any_of HT_.out (by kernel_rfl)) (fun _ _ _ h => h) (Or.inl ⟨by rfl, ?_⟩) ?_ ?_
   rotate_left
   ·intro w'
    go_simp
    with_reducible rfl
   rotate_left
   ·go_simp
    rfl
   refine pure_ (i := 2) (N := some 22) (v := ?_) (a' := ?_) #[true, true, true, false, false, false, false, false] rfl rfl (any_of HT_.out (by kernel_rfl)) (fun _ _ _ h => h) (Or.inl ⟨by rfl, ?_⟩) ?_ ?_
   rotate_left
   ·intro w'
    go_simp
    with_reducible rfl
   rotate_left
   ·go_simp
    rfl
   refine pure_ (i := 3) (N := some 23) (v := ?_) (a' := ?_) #[true, true, true, true, false, false, false, false] rfl rfl (any_of HT_.out (by kernel_rfl)) (fun _ _ _ h => h) (Or.inl ⟨by rfl, ?_⟩) ?_ ?_
   rotate_left
   ·intro w'
    go_simp
    with_reducible rfl
   rotate_left
   ·go_simp
    rfl
   refine take_ (i := 4) (N := some 24) (v := ?_) (a' := ?_) #[true, true, true, true, true, false, false, false] rfl rfl (take_ofW HT_.out HW_.out (by kernel_rfl)) (fun _ _ _ h => h) (Or.inl ⟨by rfl, ?_⟩) hHeld ?_ ?_
   rotate_left
   ·rintro w' ⟨s0, s1, s2, s3, s4, s5, s6, s7, s8, s9, s10, s11, s12, s13⟩
    go_simp
    with_reducible rfl
   rotate_left
   ·go_simp
    rfl
   refine take_ (i := 5) (N := some 25) (v := ?_) (a' := ?_) #[true, true, true, true, true, true, false, false] rfl rfl (take_ofW HT_.out HW_.out (by kernel_rfl)) (fun _ _ _ h => h) (Or.inl ⟨by rfl, ?_⟩) hHeld ?_ ?_
   rotate_left
   ·rintro w' ⟨s0, s1, s2, s3, s4, s5, s6, s7, s8, s9, s10, s11, s12, s13⟩
    go_simp
    with_reducible rfl
   rotate_left
   ·go_simp
    rfl
   refine one_ (i := 6) (N := some 26) #[true, true, true, true, true, true, true, false] rfl rfl (one_of HT_.out (by kernel_rfl)) (by decide) (fun K hK => ?_)
   refine call_ 58 #[.agg #[.int .i64 y.f0, .int .i64 y.f1, .int .i64 y.f2, .int .i64 y.f3, .int .i64 y.f4, .slice yA5' y.f5.length yc5', .slice yA6' y.f6.length yc6'], .agg #[.int .i64 x.f0, .int .i64 x.f1, .int .i64 x.f2, .int .i64 x.f3, .int .i64 x.f4, .slice xA5 x.f5.length xc5, .slice xA6 x.f6.length xc6]] (by rfl) rfl (by have he := fun w_ => enters_ Try.func58 (by kernel_rfl) rfl #[.agg #[.int .i64 y.f0, .int .i64 y.f1, .int .i64 y.f2, .int .i64 y.f3, .int .i64 y.f4, .slice yA5' y.f5.length yc5', .slice yA6' y.f6.length yc6'], .agg #[.int .i64 x.f0, .int .i64 x.f1, .int .i64 x.f2, .int .i64 x.f3, .int .i64 x.f4, .slice xA5 x.f5.length xc5, .slice xA6 x.f6.length xc6]] w_; simp [execOp, resolve, Deferred.ofValue, invoke, Act.eval, he]) ?_
   refine (hcal _).mono ?_
   rintro e w4 ⟨rfl, hb⟩
   have HB4 : Aside0 (Below W.heap.size W w4) := ⟨below_step (below_drew (Below.refl _ _)) hb⟩
   refine ⟨_, rfl, ?_⟩
   obtain ⟨t0, t1, t2, t3, t4, t5, t6, t7, t8, t9, t10, t11, t12, t13⟩ := hHeld
   have a0 := pw_cell_below hb t0
   have a1 := pw_cell_below hb t1
   have a2 := pw_cell_below hb t2
   have a3 := pw_cell_below hb t3
   have a4 := pw_cell_below hb t4
   have a5 := pw_cell_below hb t5
   have a6 := pw_cell_below hb t6
   have a7 := pw_cell_below hb t7
   have a8 := pw_cell_below hb t8
   have a9 := pw_cell_below hb t9
   have a10 := pw_cell_below hb t10
   have a11 := pw_cell_below hb t11
   have a12 := pw_cell_below hb t12
   have a13 := pw_cell_below hb t13
   clear t0 t1 t2 t3 t4 t5 t6 t7 t8 t9 t10 t11 t12 t13 hb
   refine hK.out _ _ ⟨a0, a1, a2, a3, a4, a5, a6, a7, a8, a9, a10, a11, a12, a13⟩ (fun hHeld => ?_)
   clear hK K
   refine norm_ (a' := ?_) ?_ ?_
   rotate_left
   ·show Act.put _ (some 26) _ = _
    go_simp
    rfl
   refine pure_ (i := 7) (N := some 27) (v := ?_) (a' := ?_) #[true, true, true, true, true, true, true, true] rfl rfl (any_of HT_.out (by kernel_rfl)) (fun _ _ _ h => h) (Or.inl ⟨by rfl, ?_⟩) ?_ ?_
   rotate_left
   ·intro w'
    go_simp
    with_reducible rfl
   rotate_left
   ·go_simp
    rfl
   refine done_ (done_of HT_.out (by kernel_rfl)) ?_
   have K5_4 := Aside0.mk (blk_below K5_W.out HB4.out)
   have K4_4 := Aside0.mk (blk_below K4_W.out HB4.out)
   have HBW4 : Aside0 (Below w.heap.size w w4) := ⟨HBW.out.trans (HB4.out.mono HBW.out.size)⟩
   clear hcal y0 y1 y2 y3 y4 y5 y6 s0 s1 s2 s3 s4 s5 s6 r0 z0 r1 z1 r2 z2 r3 z3 r4 z4 r5 z5 r6 z6 d1
   by_cases hgt : x.f2 < y.f2
   ·have dg : decide (0 < y.f2 - x.f2) = true := decide_eq_true (by omega)
    have hHeld2 := hHeld
    obtain ⟨y0, y1, y2, y3, y4, y5, y6, s0, s1, s2, s3, s4, s5, s6⟩ := hHeld
    have f0 := blk_frozen K5_4.out 0
    have f1 := blk_frozen K5_4.out 1
    have f2 := blk_frozen K5_4.out 2
    have f3 := blk_frozen K5_4.out 3
    have f4 := blk_frozen K5_4.out 4
    have f5 := blk_frozen K5_4.out 5
    have f6 := blk_frozen K5_4.out 6
    go_wp2
    obtain ⟨w5, hw_⟩ : ∃ w_, (((((((w4.setCell ⟨g5, 0, none⟩ (.int .i64 y.f0)).setCell ⟨g5, 1, none⟩ (.int .i64 y.f1)).setCell ⟨g5, 2, none⟩ (.int .i64 y.f2)).setCell ⟨g5, 3, none⟩ (.int .i64 y.f3)).setCell ⟨g5, 4, none⟩ (.int .i64 y.f4)).setCell ⟨g5, 5, none⟩ (.slice yA5' y.f5.length yc5')).setCell ⟨g5, 6, none⟩ (.slice yA6' y.f6.length yc6')) = w_ := ⟨_, rfl⟩
    rw [hw_]
    go_roundg k1
    case rel =>
     refine ⟨w5, i + 1, i, rfl, by omega, by omega, by omega, by first | rfl | rw [ewi.out], ⟨HIL.out, yA5', yc5', yA6', yc6', by rw [← hw_, HYI.out]; exact blk_put7 K5_4.out rfl _ _ _ _ _ _ _, fun j hj hj1 => ?_⟩, ⟨by rw [← hw_]; exact blk_far7 K4_4.out D45.out 0 _ _ _ _ _ _ _⟩, ⟨by rw [← hw_]; exact below_set7 HBW4.out P5.out 0 _ _ _ _ _ _ _⟩⟩
     by_cases e : j = i
     ·subst e
      exact Int.le_refl _
     ·have h1 := HMAX.out j hj (by omega)
      rw [HYI.out]
      omega
    all_goals omega
   ·have dg : decide (0 < y.f2 - x.f2) = false := decide_eq_false (by omega)
    go_wp2
    go_roundg k1
    case rel =>
     refine ⟨w4, i + 1, b, rfl, by omega, by omega, by omega, by first | rfl | rw [ewi.out], ⟨hbl, xA5, xc5, xA6, xc6, by rw [HX.out]; exact K5_4.out, fun j hj hj1 => ?_⟩, K4_4, HBW4⟩
     rw [HX.out]
     by_cases e : j = i
     ·subst e
      rw [HYI.out]
      omega
     ·exact HMAX.out j hj (by omega)
    all_goals omega
def mx60_T7 : Bool × List (List Nat × List Nat) := (true, [([], []), ([], []), ([], []), ([1, 2], [1, 2]), ([3], [3]), ([], []), ([0, 4, 5], [0, 4, 5]), ([6], [6])])
def mx60_B7 : List Nat := [0, 0, 0, 6, 14, 0, 63, 127]
theorem mx60_tab7 : rtab .any (opsOf Try.f60 7) = mx60_T7 := by kernel_rfl
theorem mx60_bits7 : waitsOk mx60_T7.2 mx60_B7 = true := by kernel_rfl
set_option maxHeartbeats 8000000 in
set_option maxRecDepth 100000 in
theorem min_calls (A0 : Option Addr) (c0 : Nat) (l : List S42) (w : World) (hC : Kd.C k42 w A0 l.length l) (hc0 : l.length ≤ c0) (hw : WholeP l) :
  Calls Try.prog 60 #[.slice A0 l.length c0, .func (.func 58) #[] #[]] w fun e w' => (∃ (a0 a1 a2 a3 a4 : Int) (A5 : Option Addr) (n5 c5 : Nat) (A6 : Option Addr) (n6 c6 : Nat), e = .returned (.agg #[.int .i64 a0, .int .i64 a1, .int .i64 a2, .int .i64 a3, .int .i64 a4, .slice A5 n5 c5, .slice A6 n6 c6]) ∧ (∃ b : Nat, ∃ hb : b < l.length, l[b].f2 = a2 ∧ ∀ j (hj : j < l.length), a2 ≤ l[j].f2)) ∧ Below w.heap.size w w' := by
 have hpos := hw.n0
 have hn16 := hw.n1
 have HC := Aside0.mk hC
 have HCC := Aside0.mk hc0
 have HW := Aside0.mk hw
 have hat := fun W (hb : Below w.heap.size w W) => at_T42 (Kd.C_below HC.out hb) (0 : Int) (by omega) (by omega)
 have hy0 := rdT_at l 0 (by omega)
 simp only [Int.toNat_zero, Nat.zero_mul] at hat
 rw [show (0 : Int) = ((0 : Nat) : Int) from rfl, hy0] at hat
 obtain ⟨y, hy⟩ : ∃ y, l[0] = y := ⟨_, rfl⟩
 rw [hy] at hat
 have HY := Aside0.mk hy
 have d0 : decide ((l.length : Int) < 1) = false := decide_eq_false (by omega)
 have q0 : ((0 : Int) < (l.length : Int)) = True := eq_true (by omega)
 have q0b : (0 < l.length) = True := eq_true (by omega)
 clear hC hc0 hw hy hy0
 have hu42 := Try.underlying42
 go_enter Try.func60, Try.ntmps60
 go_upto_region 4 with (first | ((with_reducible refine gate_dst (N := 4) rfl ?_); refine box_event rfl (N := 4) rfl (cs := #[.int .i64 0, .int .i64 0, .int .i64 0, .int .i64 0, .int .i64 0, .slice none 0 0, .slice none 0 0]) (t := 42) (by first | (go_simp; done) | (go_simp; rfl)) ?_; intro g4 hg w1 hbox hb; have K4_1 := Aside0.mk hbox; have HB1 := Aside0.mk hb; have P4 := Aside0.mk (show w.heap.size ≤ g4 by omega); obtain ⟨ad, yA5, yc5, yA6, yc6, rfl, y0, y1, y2, y3, y4, y5, y6, _, _, _, _⟩ := hat w1 hb; clear hat; have ez : ad.add 0 = ad := rfl; rw [ez] at y0 y1 y2 y3 y4 y5 y6; clear ez; clear hb hbox hg) | ((with_reducible refine gate_dst (N := 5) rfl ?_); refine box_event rfl (N := 5) rfl (cs := #[.int .i64 0, .int .i64 0, .int .i64 0, .int .i64 0, .int .i64 0, .slice none 0 0, .slice none 0 0]) (t := 42) (by first | (go_simp; done) | (go_simp; rfl)) ?_; intro g5 hg w2 hbox hb; have K5_2 := Aside0.mk hbox; have K4_2 := Aside0.mk (blk_below K4_1.out hb); have HB2 := Aside0.mk (below_step HB1.out hb); have P5 := Aside0.mk (show w.heap.size ≤ g5 by rw [hg]; exact HB1.out.size); have D45 := Aside0.mk (show g4 ≠ g5 by rw [hg]; have := blk_lt K4_1.out; omega); obtain ⟨r0, r1, r2, r3, r4, r5, r6, z0, z1, z2, z3, z4, z5, z6⟩ := cf7 K5_2; clear K4_1 HB1; clear hb hbox hg))
 obtain ⟨w3, hw_⟩ : ∃ w_, (((((((w2.setCell ⟨g5, 0, none⟩ (.int .i64 y.f0)).setCell ⟨g5, 1, none⟩ (.int .i64 y.f1)).setCell ⟨g5, 2, none⟩ (.int .i64 y.f2)).setCell ⟨g5, 3, none⟩ (.int .i64 y.f3)).setCell ⟨g5, 4, none⟩ (.int .i64 y.f4)).setCell ⟨g5, 5, none⟩ (.slice yA5 y.f5.length yc5)).setCell ⟨g5, 6, none⟩ (.slice yA6 y.f6.length yc6)) = w_ := ⟨_, rfl⟩
 rw [hw_]
 have K5_3 : Aside0 (w3.heap[g5]? = some (.cells #[.int .i64 y.f0, .int .i64 y.f1, .int .i64 y.f2, .int .i64 y.f3, .int .i64 y.f4, .slice yA5 y.f5.length yc5, .slice yA6 y.f6.length yc6] 42 (0, 0))) := ⟨by rw [← hw_]; exact blk_put7 K5_2.out rfl _ _ _ _ _ _ _⟩
 have K4_3 : Aside0 (w3.heap[g4]? = some (.cells #[.int .i64 0, .int .i64 0, .int .i64 0, .int .i64 0, .int .i64 0, .slice none 0 0, .slice none 0 0] 42 (0, 0))) := ⟨by rw [← hw_]; exact blk_far7 K4_2.out D45.out 0 _ _ _ _ _ _ _⟩
 have HB3 : Aside0 (Below w.heap.size w w3) := ⟨by rw [← hw_]; exact below_set7 HB2.out P5.out 0 _ _ _ _ _ _ _⟩
 clear hw_ K5_2 K4_2 HB2 r0 z0 r1 z1 r2 z2 r3 z3 r4 z4 r5 z5 r6 z6 y0 y1 y2 y3 y4 y5 y6 q0 q0b d0
 go_wp2
 go_loopg [6] (l.length - 1) (fun kq v6 w' => ∃ (W : World) (i b : Nat), W = w' ∧ i + kq = l.length ∧ 1 ≤ i ∧ b < i ∧ v6 = .int .i64 (i : Int) ∧ Aside0 (∃ (hb : b < l.length) (a5 : Option Addr) (m5 : Nat) (a6 : Option Addr) (m6 : Nat), W.heap[g5]? = some (.cells #[.int .i64 l[b].f0, .int .i64 l[b].f1, .int .i64 l[b].f2, .int .i64 l[b].f3, .int .i64 l[b].f4, .slice a5 l[b].f5.length m5, .slice a6 l[b].f6.length m6] 42 (0, 0)) ∧ ∀ j (hj : j < l.length), j < i → l[b].f2 ≤ l[j].f2) ∧ Aside0 (W.heap[g4]? = some (.cells #[.int .i64 0, .int .i64 0, .int .i64 0, .int .i64 0, .int .i64 0, .slice none 0 0, .slice none 0 0] 42 (0, 0))) ∧ Aside0 (Below w.heap.size w W))
 case atStart => exact ⟨w3, 1, 0, rfl, by omega, Nat.le_refl _, by omega, rfl, ⟨by omega, yA5, yc5, yA6, yc6, by rw [HY.out]; exact K5_3.out, fun j hj hj1 => by
  obtain rfl : j = 0 := by omega
  exact Int.le_refl _⟩, K4_3, HB3⟩
 case round =>
  obtain ⟨W, i, b, rfl, hi, hi1, hbi, rfl, HQ, K4_W, HBW⟩ := hrel
  obtain ⟨hbl, xA5, xc5, xA6, xc6, K5_, hmax⟩ := HQ.out
  have K5_W := Aside0.mk K5_
  have HMAX := Aside0.mk hmax
  clear K5_ hmax
  obtain ⟨x, hx⟩ : ∃ x, l[b] = x := ⟨_, rfl⟩
  rw [hx] at K5_W HMAX
  have HX := Aside0.mk hx
  clear hx HQ
  obtain ⟨s0, s1, s2, s3, s4, s5, s6⟩ := c7 K5_W
  obtain ⟨r0, r1, r2, r3, r4, r5, r6, z0, z1, z2, z3, z4, z5, z6⟩ := cf7 K4_W
  cases gk with
  | zero =>
   obtain rfl : i = l.length := by omega
   have d1 : decide ((l.length : Int) < (l.length : Int)) = false := decide_eq_false (by omega)

   go_wp2
   obtain ⟨w4, hw_⟩ : ∃ w_, (((((((W.setCell ⟨g4, 0, none⟩ (.int .i64 x.f0)).setCell ⟨g4, 1, none⟩ (.int .i64 x.f1)).setCell ⟨g4, 2, none⟩ (.int .i64 x.f2)).setCell ⟨g4, 3, none⟩ (.int .i64 x.f3)).setCell ⟨g4, 4, none⟩ (.int .i64 x.f4)).setCell ⟨g4, 5, none⟩ (.slice xA5 x.f5.length xc5)).setCell ⟨g4, 6, none⟩ (.slice xA6 x.f6.length xc6)) = w_ := ⟨_, rfl⟩
   rw [hw_]
   have K4_4 : w4.heap[g4]? = some (.cells #[.int .i64 x.f0, .int .i64 x.f1, .int .i64 x.f2, .int .i64 x.f3, .int .i64 x.f4, .slice xA5 x.f5.length xc5, .slice xA6 x.f6.length xc6] 42 (0, 0)) := by rw [← hw_]; exact blk_put7 K4_W.out rfl _ _ _ _ _ _ _
   have HB4 : Below w.heap.size w w4 := by rw [← hw_]; exact below_set7 HBW.out P4.out 0 _ _ _ _ _ _ _
   have t0 : w4.cell? ⟨g4, 0, none⟩ = some (.int .i64 x.f0) := (blk_cell K4_4 0).trans rfl
   have t1 : w4.cell? ⟨g4, 1, none⟩ = some (.int .i64 x.f1) := (blk_cell K4_4 1).trans rfl
   have t2 : w4.cell? ⟨g4, 2, none⟩ = some (.int .i64 x.f2) := (blk_cell K4_4 2).trans rfl
   have t3 : w4.cell? ⟨g4, 3, none⟩ = some (.int .i64 x.f3) := (blk_cell K4_4 3).trans rfl
   have t4 : w4.cell? ⟨g4, 4, none⟩ = some (.int .i64 x.f4) := (blk_cell K4_4 4).trans rfl
   have t5 : w4.cell? ⟨g4, 5, none⟩ = some (.slice xA5 x.f5.length xc5) := (blk_cell K4_4 5).trans rfl
   have t6 : w4.cell? ⟨g4, 6, none⟩ = some (.slice xA6 x.f6.length xc6) := (blk_cell K4_4 6).trans rfl
   refine ⟨rfl, .agg #[.int .i64 x.f0, .int .i64 x.f1, .int .i64 x.f2, .int .i64 x.f3, .int .i64 x.f4, .slice xA5 x.f5.length xc5, .slice xA6 x.f6.length xc6], ?_, ⟨_, _, _, _, _, _, _, _, _, _, _, rfl, b, hbl, by rw [HX.out], fun j hj => HMAX.out j hj hj⟩, HB4⟩
   simp [results, Try.f60, go_sem, t0, t1, t2, t3, t4, t5, t6]
  | succ k1 =>
   have hil : i < l.length := by omega
   have hxb := (HW.out.at_ b hbl).2.f2b
   rw [HX.out] at hxb
   have hib := (HW.out.at_ i hil).2.f2b
   have hat := at_T42 (Kd.C_below HC.out HBW.out) (i : Int) (by omega) (by omega)
   simp only [Int.toNat_natCast] at hat
   rw [rdT_at l i hil] at hat
   obtain ⟨y, hy⟩ : ∃ y, l[i] = y := ⟨_, rfl⟩
   rw [hy] at hat hib
   have HYI := Aside0.mk hy
   obtain ⟨ad', yA5', yc5', yA6', yc6', ea, y0, y1, y2, y3, y4, y5, y6, _, _, _, _⟩ := hat
   cases ea
   have p1 : (0 ≤ (i : Int)) = True := eq_true (by omega)
   have q1 : ((i : Int) < (l.length : Int)) = True := eq_true (by omega)
   have q1b : (i < l.length) = True := eq_true hil
   have hwr : wrap64 (y.f2 - x.f2) = y.f2 - x.f2 := by unfold wrap64; omega
   have ewi : Aside0 (wrap64 ((i : Int) + 1) = ((i + 1 : Nat) : Int)) := ⟨w64s i (by omega)⟩
   have d1 : decide ((i : Int) < (l.length : Int)) = true := decide_eq_true (by omega)
   have hcal := fun W_ => less_calls y.f0 y.f1 y.f2 y.f3 y.f4 yA5' y.f5.length yc5' yA6' y.f6.length yc6' x.f0 x.f1 x.f2 x.f3 x.f4 xA5 x.f5.length xc5 xA6 x.f6.length xc6 W_
   rw [hwr] at hcal
   have HIL := Aside0.mk hil
   have HXB := Aside0.mk hxb
   have HIB := Aside0.mk hib
   clear hwr hy hxb hib
   go_upto_region 7 with (fail)
   refine start_ (n := 8) (S := fun w' => w'.cell? (ad.add (i * 7)) = some (.int .i64 y.f0) ∧ w'.cell? ⟨(ad.add (i * 7)).block, (ad.add (i * 7)).off + 1, none⟩ = some (.int .i64 y.f1) ∧ w'.cell? ⟨(ad.add (i * 7)).block, (ad.add (i * 7)).off + 2, none⟩ = some (.int .i64 y.f2) ∧ w'.cell? ⟨(ad.add (i * 7)).block, (ad.add (i * 7)).off + 3, none⟩ = some (.int .i64 y.f3) ∧ w'.cell? ⟨(ad.add (i * 7)).block, (ad.add (i * 7)).off + 4, none⟩ = some (.int .i64 y.f4) ∧ w'.cell? ⟨(ad.add (i * 7)).block, (ad.add (i * 7)).off + 5, none⟩ = some (.slice yA5' y.f5.length yc5') ∧ w'.cell? ⟨(ad.add (i * 7)).block, (ad.add (i * 7)).off + 6, none⟩ = some (.slice yA6' y.f6.length yc6') ∧ w'.cell? ⟨g5, 0, none⟩ = some (.int .i64 x.f0) ∧ w'.cell? ⟨g5, 1, none⟩ = some (.int .i64 x.f1) ∧ w'.cell? ⟨g5, 2, none⟩ = some (.int .i64 x.f2) ∧ w'.cell? ⟨g5, 3, none⟩ = some (.int .i64 x.f3) ∧ w'.cell? ⟨g5, 4, none⟩ = some (.int .i64 x.f4) ∧ w'.cell? ⟨g5, 5, none⟩ = some (.slice xA5 x.f5.length xc5) ∧ w'.cell? ⟨g5, 6, none⟩ = some (.slice xA6 x.f6.length xc6)) (ds := []) #[false, false, false, false, false, false, false, false] (by kernel_rfl) rfl rfl ⟨y0, y1, y2, y3, y4, y5, y6, s0, s1, s2, s3, s4, s5, s6⟩ (fun hHeld => ?_); refine with_tabW mx60_tab7 mx60_bits7 (fun HT_ HW_ => ?_)
   refine pure_ (i := 0) (N := some 20) (v := ?_) (a' := ?_) #[true, false, false, false, false, false, false, false] rfl rfl (any_of HT_.out (by kernel_rfl)) (fun _ _ _ h => h) (Or.inl ⟨by rfl, ?_⟩) ?_ ?_
   rotate_left
   ·intro w'
    go_simp
    with_reducible rfl
   rotate_left
   ·go_simp
    rfl
   refine pure_ (i := 1) (N := some 21) (v := ?_) (a' := ?_) #[true, true, false, false, false, false, false, false] rfl rfl (any_of HT_.out (by kernel_rfl)) (fun _ _ _ h => h) (Or.inl ⟨by rfl, ?_⟩) ?_ ?_
   rotate_left
   ·intro w'
    go_simp
    with_reducible rfl
   rotate_left
   ·go_simp
    rfl
   refine pure_ (i := 2) (N := some 22) (v := ?_) (a' := ?_) #[true, true, true, false, false, false, false, false] rfl rfl (any_of HT_.out (by kernel_rfl)) (fun _ _ _ h => h) (Or.inl ⟨by rfl, ?_⟩) ?_ ?_
   rotate_left
   ·intro w'
    go_simp
    with_reducible rfl
   rotate_left
   ·go_simp
    rfl
   refine pure_ (i := 3) (N := some 23) (v := ?_) (a' := ?_) #[true, true, true, true, false, false, false, false] rfl rfl (any_of HT_.out (by kernel_rfl)) (fun _ _ _ h => h) (Or.inl ⟨by rfl, ?_⟩) ?_ ?_
   rotate_left
   ·intro w'
    go_simp
    with_reducible rfl
   rotate_left
   ·go_simp
    rfl
   refine take_ (i := 4) (N := some 24) (v := ?_) (a' := ?_) #[true, true, true, true, true, false, false, false] rfl rfl (take_ofW HT_.out HW_.out (by kernel_rfl)) (fun _ _ _ h => h) (Or.inl ⟨by rfl, ?_⟩) hHeld ?_ ?_
   rotate_left
   ·rintro w' ⟨s0, s1, s2, s3, s4, s5, s6, s7, s8, s9, s10, s11, s12, s13⟩
    go_simp
    with_reducible rfl
   rotate_left
   ·go_simp
    rfl
   refine take_ (i := 5) (N := some 25) (v := ?_) (a' := ?_) #[true, true, true, true, true, true, false, false] rfl rfl (take_ofW HT_.out HW_.out (by kernel_rfl)) (fun _ _ _ h => h) (Or.inl ⟨by rfl, ?_⟩) hHeld ?_ ?_
   rotate_left
   ·rintro w' ⟨s0, s1, s2, s3, s4, s5, s6, s7, s8, s9, s10, s11, s12, s13⟩
    go_simp
    with_reducible rfl
   rotate_left
   ·go_simp
    rfl
   refine one_ (i := 6) (N := some 26) #[true, true, true, true, true, true, true, false] rfl rfl (one_of HT_.out (by kernel_rfl)) (by decide) (fun K hK => ?_)
   refine call_ 58 #[.agg #[.int .i64 y.f0, .int .i64 y.f1, .int .i64 y.f2, .int .i64 y.f3, .int .i64 y.f4, .slice yA5' y.f5.length yc5', .slice yA6' y.f6.length yc6'], .agg #[.int .i64 x.f0, .int .i64 x.f1, .int .i64 x.f2, .int .i64 x.f3, .int .i64 x.f4, .slice xA5 x.f5.length xc5, .slice xA6 x.f6.length xc6]] (by rfl) rfl (by have he := fun w_ => enters_ Try.func58 (by kernel_rfl) rfl #[.agg #[.int .i64 y.f0, .int .i64 y.f1, .int .i64 y.f2, .int .i64 y.f3, .int .i64 y.f4, .slice yA5' y.f5.length yc5', .slice yA6' y.f6.length yc6'], .agg #[.int .i64 x.f0, .int .i64 x.f1, .int .i64 x.f2, .int .i64 x.f3, .int .i64 x.f4, .slice xA5 x.f5.length xc5, .slice xA6 x.f6.length xc6]] w_; simp [execOp, resolve, Deferred.ofValue, invoke, Act.eval, he]) ?_
   refine (hcal _).mono ?_
   rintro e w4 ⟨rfl, hb⟩
   have HB4 : Aside0 (Below W.heap.size W w4) := ⟨below_step (below_drew (Below.refl _ _)) hb⟩
   refine ⟨_, rfl, ?_⟩
   obtain ⟨t0, t1, t2, t3, t4, t5, t6, t7, t8, t9, t10, t11, t12, t13⟩ := hHeld
   have a0 := pw_cell_below hb t0
   have a1 := pw_cell_below hb t1
   have a2 := pw_cell_below hb t2
   have a3 := pw_cell_below hb t3
   have a4 := pw_cell_below hb t4
   have a5 := pw_cell_below hb t5
   have a6 := pw_cell_below hb t6
   have a7 := pw_cell_below hb t7
   have a8 := pw_cell_below hb t8
   have a9 := pw_cell_below hb t9
   have a10 := pw_cell_below hb t10
   have a11 := pw_cell_below hb t11
   have a12 := pw_cell_below hb t12
   have a13 := pw_cell_below hb t13
   clear t0 t1 t2 t3 t4 t5 t6 t7 t8 t9 t10 t11 t12 t13 hb
   refine hK.out _ _ ⟨a0, a1, a2, a3, a4, a5, a6, a7, a8, a9, a10, a11, a12, a13⟩ (fun hHeld => ?_)
   clear hK K
   refine norm_ (a' := ?_) ?_ ?_
   rotate_left
   ·show Act.put _ (some 26) _ = _
    go_simp
    rfl
   refine pure_ (i := 7) (N := some 27) (v := ?_) (a' := ?_) #[true, true, true, true, true, true, true, true] rfl rfl (any_of HT_.out (by kernel_rfl)) (fun _ _ _ h => h) (Or.inl ⟨by rfl, ?_⟩) ?_ ?_
   rotate_left
   ·intro w'
    go_simp
    with_reducible rfl
   rotate_left
   ·go_simp
    rfl
   refine done_ (done_of HT_.out (by kernel_rfl)) ?_
   have K5_4 := Aside0.mk (blk_below K5_W.out HB4.out)
   have K4_4 := Aside0.mk (blk_below K4_W.out HB4.out)
   have HBW4 : Aside0 (Below w.heap.size w w4) := ⟨HBW.out.trans (HB4.out.mono HBW.out.size)⟩
   clear hcal y0 y1 y2 y3 y4 y5 y6 s0 s1 s2 s3 s4 s5 s6 r0 z0 r1 z1 r2 z2 r3 z3 r4 z4 r5 z5 r6 z6 d1
   by_cases hgt : y.f2 < x.f2
   ·have dg : decide (y.f2 - x.f2 < 0) = true := decide_eq_true (by omega)
    have hHeld2 := hHeld
    obtain ⟨y0, y1, y2, y3, y4, y5, y6, s0, s1, s2, s3, s4, s5, s6⟩ := hHeld
    have f0 := blk_frozen K5_4.out 0
    have f1 := blk_frozen K5_4.out 1
    have f2 := blk_frozen K5_4.out 2
    have f3 := blk_frozen K5_4.out 3
    have f4 := blk_frozen K5_4.out 4
    have f5 := blk_frozen K5_4.out 5
    have f6 := blk_frozen K5_4.out 6
    go_wp2
    obtain ⟨w5, hw_⟩ : ∃ w_, (((((((w4.setCell ⟨g5, 0, none⟩ (.int .i64 y.f0)).setCell ⟨g5, 1, none⟩ (.int .i64 y.f1)).setCell ⟨g5, 2, none⟩ (.int .i64 y.f2)).setCell ⟨g5, 3, none⟩ (.int .i64 y.f3)).setCell ⟨g5, 4, none⟩ (.int .i64 y.f4)).setCell ⟨g5, 5, none⟩ (.slice yA5' y.f5.length yc5')).setCell ⟨g5, 6, none⟩ (.slice yA6' y.f6.length yc6')) = w_ := ⟨_, rfl⟩
    rw [hw_]
    go_roundg k1
    case rel =>
     refine ⟨w5, i + 1, i, rfl, by omega, by omega, by omega, by first | rfl | rw [ewi.out], ⟨HIL.out, yA5', yc5', yA6', yc6', by rw [← hw_, HYI.out]; exact blk_put7 K5_4.out rfl _ _ _ _ _ _ _, fun j hj hj1 => ?_⟩, ⟨by rw [← hw_]; exact blk_far7 K4_4.out D45.out 0 _ _ _ _ _ _ _⟩, ⟨by rw [← hw_]; exact below_set7 HBW4.out P5.out 0 _ _ _ _ _ _ _⟩⟩
     by_cases e : j = i
     ·subst e
      exact Int.le_refl _
     ·have h1 := HMAX.out j hj (by omega)
      rw [HYI.out]
      omega
    all_goals omega
   ·have dg : decide (y.f2 - x.f2 < 0) = false := decide_eq_false (by omega)
    go_wp2
    go_roundg k1
    case rel =>
     refine ⟨w4, i + 1, b, rfl, by omega, by omega, by omega, by first | rfl | rw [ewi.out], ⟨hbl, xA5, xc5, xA6, xc6, by rw [HX.out]; exact K5_4.out, fun j hj hj1 => ?_⟩, K4_4, HBW4⟩
     rw [HX.out]
     by_cases e : j = i
     ·subst e
      rw [HYI.out]
      omega
     ·exact HMAX.out j hj (by omega)
    all_goals omega
def hiF (l : List S42) : Int := l.foldl (fun m c => if m < c.f2 then c.f2 else m) (rd_T42 l 0).f2
def loF (l : List S42) : Int := l.foldl (fun m c => if c.f2 < m then c.f2 else m) (rd_T42 l 0).f2
theorem hi_fold : ∀ (l : List S42) (m : Int), m ≤ l.foldl (fun m c => if m < c.f2 then c.f2 else m) m ∧ (∀ c ∈ l, c.f2 ≤ l.foldl (fun m c => if m < c.f2 then c.f2 else m) m) ∧ (l.foldl (fun m c => if m < c.f2 then c.f2 else m) m = m ∨ ∃ c ∈ l, l.foldl (fun m c => if m < c.f2 then c.f2 else m) m = c.f2)
 | [], m => ⟨Int.le_refl _, fun _ h => by (cases h), .inl rfl⟩
 | c :: cs, m => by
  obtain ⟨h1, h2, h3⟩ := hi_fold cs (if m < c.f2 then c.f2 else m)
  simp only [List.foldl_cons]
  generalize cs.foldl (fun m c => if m < c.f2 then c.f2 else m) (if m < c.f2 then c.f2 else m) = z at h1 h2 h3
  by_cases e : m < c.f2
  ·rw [if_pos e] at h1 h3
   refine ⟨by omega, fun d hd => ?_, .inr ?_⟩
   ·rcases List.mem_cons.1 hd with rfl | hd
    ·exact h1
    ·exact h2 d hd
   ·rcases h3 with h3 | ⟨d, hd, h3⟩
    ·exact ⟨c, List.mem_cons_self .., h3⟩
    ·exact ⟨d, List.mem_cons_of_mem _ hd, h3⟩
  ·rw [if_neg e] at h1 h3
   refine ⟨h1, fun d hd => ?_, ?_⟩
   ·rcases List.mem_cons.1 hd with rfl | hd
    ·omega
    ·exact h2 d hd
   ·rcases h3 with h3 | ⟨d, hd, h3⟩
    ·exact .inl h3
    ·exact .inr ⟨d, List.mem_cons_of_mem _ hd, h3⟩
theorem lo_fold : ∀ (l : List S42) (m : Int), l.foldl (fun m c => if c.f2 < m then c.f2 else m) m ≤ m ∧ (∀ c ∈ l, l.foldl (fun m c => if c.f2 < m then c.f2 else m) m ≤ c.f2) ∧ (l.foldl (fun m c => if c.f2 < m then c.f2 else m) m = m ∨ ∃ c ∈ l, l.foldl (fun m c => if c.f2 < m then c.f2 else m) m = c.f2)
 | [], m => ⟨Int.le_refl _, fun _ h => by (cases h), .inl rfl⟩
 | c :: cs, m => by
  obtain ⟨h1, h2, h3⟩ := lo_fold cs (if c.f2 < m then c.f2 else m)
  simp only [List.foldl_cons]
  generalize cs.foldl (fun m c => if c.f2 < m then c.f2 else m) (if c.f2 < m then c.f2 else m) = z at h1 h2 h3
  by_cases e : c.f2 < m
  ·rw [if_pos e] at h1 h3
   refine ⟨by omega, fun d hd => ?_, .inr ?_⟩
   ·rcases List.mem_cons.1 hd with rfl | hd
    ·exact h1
    ·exact h2 d hd
   ·rcases h3 with h3 | ⟨d, hd, h3⟩
    ·exact ⟨c, List.mem_cons_self .., h3⟩
    ·exact ⟨d, List.mem_cons_of_mem _ hd, h3⟩
  ·rw [if_neg e] at h1 h3
   refine ⟨h1, fun d hd => ?_, ?_⟩
   ·rcases List.mem_cons.1 hd with rfl | hd
    ·omega
    ·exact h2 d hd
   ·rcases h3 with h3 | ⟨d, hd, h3⟩
    ·exact .inl h3
    ·exact .inr ⟨d, List.mem_cons_of_mem _ hd, h3⟩
theorem rd0_mem {l : List S42} (h : 0 < l.length) : rd_T42 l 0 ∈ l := by
 have := rdT_at l 0 h
 rw [show (0 : Int) = ((0 : Nat) : Int) from rfl, this]
 exact List.getElem_mem h
theorem hi_one {l : List S42} {b : Nat} (hb : b < l.length) {a : Int} (e : l[b].f2 = a) (hm : ∀ j (hj : j < l.length), l[j].f2 ≤ a) : a = hiF l := by
 obtain ⟨h1, h2, h3⟩ := hi_fold l (rd_T42 l 0).f2
 have q1 : a ≤ hiF l := by rw [← e]; exact h2 _ (List.getElem_mem hb)
 have q2 : hiF l ≤ a := by
  have key : ∀ c ∈ l, c.f2 ≤ a := fun c hc => by
   obtain ⟨j, hj, rfl⟩ := List.getElem_of_mem hc
   exact hm j hj
  rcases h3 with h3 | ⟨c, hc, h3⟩
  ·unfold hiF
   rw [h3]
   exact key _ (rd0_mem (by omega))
  ·unfold hiF
   rw [h3]
   exact key c hc
 omega
theorem lo_one {l : List S42} {b : Nat} (hb : b < l.length) {a : Int} (e : l[b].f2 = a) (hm : ∀ j (hj : j < l.length), a ≤ l[j].f2) : a = loF l := by
 obtain ⟨h1, h2, h3⟩ := lo_fold l (rd_T42 l 0).f2
 have q1 : loF l ≤ a := by rw [← e]; exact h2 _ (List.getElem_mem hb)
 have q2 : a ≤ loF l := by
  have key : ∀ c ∈ l, a ≤ c.f2 := fun c hc => by
   obtain ⟨j, hj, rfl⟩ := List.getElem_of_mem hc
   exact hm j hj
  rcases h3 with h3 | ⟨c, hc, h3⟩
  ·unfold loF
   rw [h3]
   exact key _ (rd0_mem (by omega))
  ·unfold loF
   rw [h3]
   exact key c hc
 omega
def cyl_Spread.f (k : Nat) (l0 : List (S42)) : Option (Int) := (cyl_Whole.f k l0).bind fun t => (if t = true then (if wholeB l0 = true then some (wrap64 (hiF l0 - loF l0)) else none) else (some 0))
set_option maxHeartbeats 8000000 in
set_option maxRecDepth 100000 in
theorem cyl_Spread.calls (k : Nat) (A0 : Option Addr) (c0 : Nat) (l0 : List (S42)) (r : Int) (w : World) (hr0 : Kd.C k42 w A0 l0.length l0) (hc0 : l0.length ≤ c0) (h : cyl_Spread.f k l0 = some r) :
  Calls Try.prog 26 #[.slice A0 l0.length c0] w fun e w' => e = .returned (.int .i64 r) ∧ Below w.heap.size w w' := by
 have HR0 := Aside0.mk hr0
 have HC0 := Aside0.mk hc0
 clear hr0 hc0
 unfold cyl_Spread.f at h
 cases hwh : cyl_Whole.f k l0 with
 | none => rw [hwh] at h; cases h
 | some t =>
  rw [hwh] at h
  have HWH := Aside0.mk hwh
  clear hwh
  cases t with
  | false =>
   obtain rfl : (0 : Int) = r := by simpa using h
   clear h
   go_enter Try.func26, Try.ntmps26
   go_wp2_with (first | (go_at_call 19; refine (cyl_Whole.calls k A0 c0 l0 false w HR0.out HC0.out HWH.out).mono ?_; rintro e w1 ⟨rfl, hb⟩; have HB1 := Aside0.mk hb; clear hb))
   go_ret
   exact ⟨rfl, HB1.out⟩
  | true =>
   by_cases hB : wholeB l0 = true
   ·have hr : r = wrap64 (hiF l0 - loF l0) := by
     simp only [Option.bind_some, if_true, hB] at h
     exact (Option.some.inj h).symm
    subst hr
    have HW := Aside0.mk ((whole_iff l0).1 hB)
    clear h hB
    have hfld : ∀ (a0 a1 a2 a3 a4 : Int) (A5 : Option Addr) (n5 c5 : Nat) (A6 : Option Addr) (n6 c6 : Nat) (W_ : World), Sem.run Try.prog (Instr.field 42 (.agg #[.int .i64 a0, .int .i64 a1, .int .i64 a2, .int .i64 a3, .int .i64 a4, .slice A5 n5 c5, .slice A6 n6 c6]) 2) W_ = .ok (.int .i64 a2) W_ := fun _ _ _ _ _ _ _ _ _ _ _ _ => by kernel_rfl
    go_enter Try.func26, Try.ntmps26
    go_wp2_with (first | (go_at_call 19; refine (cyl_Whole.calls k A0 c0 l0 true w HR0.out HC0.out HWH.out).mono ?_; rintro e w1 ⟨rfl, hb⟩; have HB1 := Aside0.mk hb; clear hb) | (go_at_call 59; refine (max_calls A0 c0 l0 w1 (Kd.C_below HR0.out HB1.out) HC0.out HW.out).mono ?_; rintro e w2 ⟨⟨a0, a1, a2, a3, a4, A5, n5, c5, A6, n6, c6, rfl, b, hbl, hbe, hbm⟩, hb⟩; have HB2 := Aside0.mk (below_step HB1.out hb); have e2 := hi_one hbl hbe hbm; subst e2; clear hb hbl hbe hbm) | (go_at_call 60; refine (min_calls A0 c0 l0 w2 (Kd.C_below HR0.out HB2.out) HC0.out HW.out).mono ?_; rintro e w3 ⟨⟨d0, d1, d2, d3, d4, D5, m5, b5, D6, m6, b6, rfl, b, hbl, hbe, hbm⟩, hb⟩; have HB3 := Aside0.mk (below_step HB2.out hb); have e2 := lo_one hbl hbe hbm; subst e2; clear hb hbl hbe hbm))
    go_ret
    exact ⟨rfl, HB3.out⟩
   ·simp only [Option.bind_some, if_true, if_neg hB] at h
    cases h
end Go.Proofs.Ytehjmmedghcndaa.PG
