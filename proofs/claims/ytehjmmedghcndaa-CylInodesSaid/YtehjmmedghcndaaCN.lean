import Derived.Test.YtehjmmedghcndaaCV
import Derived.Test.YtehjmmedghcndaaCE0
import Derived.Test.YtehjmmedghcndaaLT
/-! The reference's first. -/
namespace Go.Proofs.Ytehjmmedghcndaa.PG
open Go.RowKit Go.Proofs.YtehjmmedghcndaaW.PrintWords Go.Proofs.YtehjmmedghcndaaW.PrintLast Go.Proofs.YtehjmmedghcndaaW.PrintMore
attribute [local go_sem] Oper.semAt_some
set_option maxHeartbeats 8000000 in
set_option maxRecDepth 100000 in
theorem rfirst_ok (A0 : Option Addr) (c0 : Nat) (l : List S42) (gn : Nat) (w : World) (hC : Kd.C k42 w A0 l.length l) (hc0 : l.length ≤ c0) (hw : wholeB l = true) (hgl : gn < l.length) (hz : (l[gn]).f3 ≠ 0) :
  Calls Try.prog 71 #[.slice A0 l.length c0, .int .i64 (gn : Int)] w fun e w' => ∃ v, e = .returned (.tuple #[v, .agg #[.int .i64 (gn : Int), .int .i64 (mex l[gn].f6 : Int)], .int .i64 0]) ∧ Kd.S k42 42 w' w.heap.size (fun _ => True) v (l.set gn (firstC l[gn])) ∧ Below w.heap.size w w' := by
 have hw_ := (whole_iff l).1 hw
 have hsm := hw_.small
 have hry := (hw_.at_ gn hgl).2
 have hri := (hw_.at_ gn hgl).1
 have HC := Aside0.mk hC
 have HCC := Aside0.mk hc0
 have p1 : (0 ≤ (gn : Int)) = True := eq_true (by omega)
 have q1 : ((gn : Int) < (l.length : Int)) = True := eq_true (by omega)
 have hat := fun W (hb : Below w.heap.size w W) => at_T42 (Kd.C_below HC.out hb) (gn : Int) (by omega) (by omega)
 simp only [Int.toNat_natCast] at hat
 rw [rdT_at l gn hgl] at hat
 obtain ⟨y, hy⟩ : ∃ y, l[gn] = y := ⟨_, rfl⟩
 rw [hy] at hry hri hat hz ⊢
 have hmx := mex_at hry.n
 have hml := mex_le y.f6
 have hm16 : mex y.f6 < 16 := by have := hry.nlen; have := hry.fi; omega
 obtain ⟨mx_, hme⟩ : ∃ m, mex y.f6 = m := ⟨_, rfl⟩
 have HME := Aside0.mk hme
 rw [hme] at hmx hml hm16 ⊢
 have HMX := Aside0.mk hmx
 have HML := Aside0.mk hml
 have HM16 := Aside0.mk hm16
 have HRY := Aside0.mk hry
 have HRI := Aside0.mk hri
 have HSM := Aside0.mk hsm
 clear hC hc0 hw hw_ hsm hry hri hy hmx hml hm16 hz hme
 have hu42 := Try.underlying42
 have hu24 := Try.underlying24
 go_enter Try.func71, Try.ntmps71
 go_upto_region 2 with (first | ((with_reducible refine gate_dst (N := 5) rfl ?_); refine box_event rfl (N := 5) rfl (cs := #[.int .i64 0, .int .i64 0]) (t := 24) (by first | (go_simp; done) | (go_simp; rfl)) ?_; intro g5 hg w1 hbox hb; have K5_1 := Aside0.mk hbox; have HB1 := Aside0.mk hb; have P5 := Aside0.mk (show w.heap.size ≤ g5 by omega); obtain ⟨ad, A5, c5, A6, c6, rfl, y0, y1, y2, y3, y4, y5, y6, l5, g5_, l6, g6_⟩ := hat w1 hb; have G5 := Aside0.mk g5_; have L5 := Aside0.mk l5; have G6 := Aside0.mk g6_; have L6 := Aside0.mk l6; clear hat l5 g5_ l6 g6_; clear hb hbox hg) | ((with_reducible refine gate_dst (N := 7) rfl ?_); refine box_event rfl (N := 7) rfl (cs := #[.int .i64 0, .int .i64 0, .int .i64 0, .int .i64 0, .int .i64 0, .slice none 0 0, .slice none 0 0]) (t := 42) (by first | (go_simp; done) | (go_simp; rfl)) ?_; intro gc hg wa hbox hb; have KC_a := Aside0.mk hbox; have HBa := Aside0.mk hb; have PC := Aside0.mk (show w1.heap.size ≤ gc by omega); have K5_a := Aside0.mk (blk_below K5_1.out hb); obtain ⟨r0, r1, r2, r3, r4, r5, r6, z0, z1, z2, z3, z4, z5, z6⟩ := cf7 KC_a; clear hb hbox hg) | ((with_reducible refine gate_store (t := 42) (p := 7) rfl ?_); refine store_event (t := 42) (p := 7) (v := ?vo_wb) (w1 := (((((((wa.setCell ⟨gc, 0, none⟩ (.int .i64 y.f0)).setCell ⟨gc, 1, none⟩ (.int .i64 y.f1)).setCell ⟨gc, 2, none⟩ (.int .i64 y.f2)).setCell ⟨gc, 3, none⟩ (.int .i64 y.f3)).setCell ⟨gc, 4, none⟩ (.int .i64 y.f4)).setCell ⟨gc, 5, none⟩ (.slice A5 y.f5.length c5)).setCell ⟨gc, 6, none⟩ (.slice A6 y.f6.length c6))) ?hg ?ho ?hn ?hr ?_; (case ho => rfl); (case hg => rfl); (case hn => rfl); (case hr => first | (go_simp; done) | (go_simp; rfl)); intro wb hw; have KC_b : Aside0 (wb.heap[gc]? = some (.cells #[.int .i64 y.f0, .int .i64 y.f1, .int .i64 y.f2, .int .i64 y.f3, .int .i64 y.f4, .slice A5 y.f5.length c5, .slice A6 y.f6.length c6] 42 (0, 0))) := ⟨by rw [hw]; exact blk_put7 KC_a.out rfl _ _ _ _ _ _ _⟩; have K5_b : Aside0 (wb.heap[g5]? = some (.cells #[.int .i64 0, .int .i64 0] 24 (0, 0))) := ⟨by rw [hw]; exact blk_far7 K5_a.out (fun e => by have := blk_lt K5_1.out; have := PC.out; omega) 0 _ _ _ _ _ _ _⟩; have HBb : Aside0 (Below w1.heap.size w1 wb) := ⟨by rw [hw]; exact below_set7 HBa.out PC.out 0 _ _ _ _ _ _ _⟩; clear KC_a K5_a HBa r0 r1 r2 r3 r4 r5 r6 z0 z1 z2 z3 z4 z5 z6 y0 y1 y2 y3 y4 y5 y6; clear hw))
 clear p1 q1 hgl
 go_wp2
 go_loopg [8] mx_ (fun kq v8 w' => ∃ (W : World) (i : Nat), W = w' ∧ i + kq = mx_ ∧ v8 = .int .i64 (i : Int) ∧ Aside0 (Below wb.heap.size wb W))
 case atStart => exact ⟨wb, 0, rfl, by omega, rfl, ⟨Below.refl _ _⟩⟩
 case round =>
  obtain ⟨W, i, rfl, hi, rfl, HBW⟩ := hrel
  have KC_W := Aside0.mk (blk_below KC_b.out HBW.out)
  have K5_W := Aside0.mk (blk_below K5_b.out HBW.out)
  have m6_ : W.cell? ⟨gc, 6, none⟩ = some (.slice A6 y.f6.length c6) := (blk_cell KC_W.out 6).trans rfl
  have hi16 : (i : Int) < 16 := by have := HM16.out; omega
  have hi16b : i < 16 := by have := HM16.out; omega
  have HHAS := Aside0.mk (rhas_is y.f6 (by have := HRY.out.nlen; omega) (i : Int) 0)
  cases gk with
  | succ k1 =>
   rw [HMX.out.2.2 i (by omega)] at HHAS
   have ewi : Aside0 (wrap64 ((i : Int) + 1) = ((i + 1 : Nat) : Int)) := ⟨w64s i (by omega)⟩
   go_wp2_with (go_at_call 51; refine (selvedgeref18_has.calls _ A6 c6 y.f6 (i : Int) true W (Kd.C_below G6.out (HBb.out.trans (HBW.out.mono HBb.out.size))) L6.out HHAS.out).mono ?_; rintro e w5 ⟨rfl, hd⟩; have HD : Aside0 (Below W.heap.size W w5) := ⟨(by obtain ⟨n, rfl⟩ := hd; exact pw_below_drewN (Below.refl _ _) n)⟩; clear hd m6_)
   go_roundg k1
   case rel => exact ⟨w5, i + 1, rfl, by omega, by first | rfl | rw [ewi.out], ⟨HBW.out.trans (HD.out.mono HBW.out.size)⟩⟩
   all_goals omega
  | zero =>
   obtain rfl : i = mx_ := by omega
   have HPL := Aside0.mk (putAt_len y.f6 i (i : Int))
   have hwith := rwith_is y.f6 (by have := HRY.out.nlen; omega) (-1) 16 (i : Int) HRY.out.n HMX.out.1 0
   rw [HMX.out.2.1] at hwith
   rw [HMX.out.1] at HHAS
   obtain ⟨P, hP⟩ : ∃ P, putAt y.f6 i (i : Int) = P := ⟨_, rfl⟩
   have HP := Aside0.mk hP
   rw [hP] at HPL hwith
   have HWITH := Aside0.mk hwith
   clear hP hwith
   go_upto_region 7 with (first | (go_at_call 51; refine (selvedgeref18_has.calls _ A6 c6 y.f6 (i : Int) false W (Kd.C_below G6.out (HBb.out.trans (HBW.out.mono HBb.out.size))) L6.out HHAS.out).mono ?_; rintro e w5 ⟨rfl, hd⟩; have HD : Aside0 (Below W.heap.size W w5) := ⟨(by obtain ⟨n, rfl⟩ := hd; exact pw_below_drewN (Below.refl _ _) n)⟩; clear hd m6_; have KC_5 := Aside0.mk (blk_below KC_W.out HD.out); have K5_5 := Aside0.mk (blk_below K5_W.out HD.out); have m6_ : w5.cell? ⟨gc, 6, none⟩ = some (.slice A6 y.f6.length c6) := (blk_cell KC_5.out 6).trans rfl; have HB5 : Aside0 (Below w1.heap.size w1 w5) := ⟨HBb.out.trans ((HBW.out.mono HBb.out.size).trans (HD.out.mono (Nat.le_trans HBb.out.size HBW.out.size)))⟩) | (go_at_call 52; refine (selvedgeref18_with.calls _ A6 c6 y.f6 (i : Int) P w5 (Kd.C_below G6.out HB5.out) L6.out HWITH.out).mono ?_; rintro e w6 ⟨v, rfl, hR, hb⟩; obtain ⟨gi, ci, rfl, _, _, _⟩ := Kd.R_form hR (by have := HPL.out; omega); have HR6 := Aside0.mk hR; have HB56 := Aside0.mk hb; clear hR hb m6_; have KC_6 := Aside0.mk (blk_below KC_5.out HB56.out); have K5_6 := Aside0.mk (blk_below K5_5.out HB56.out); have m6_ : w6.cell? ⟨gc, 6, none⟩ = some (.slice A6 y.f6.length c6) := (blk_cell KC_6.out 6).trans rfl; have u6_ := blk_frozen KC_6.out 6))
   obtain ⟨w7, hw⟩ : ∃ w7, (w6.setCell ⟨gc, 6, none⟩ (.slice (some ⟨gi, 0, none⟩) P.length ci)) = w7 := ⟨_, rfl⟩
   rw [hw]
   have KC_7 : Aside0 (w7.heap[gc]? = some (.cells #[.int .i64 y.f0, .int .i64 y.f1, .int .i64 y.f2, .int .i64 y.f3, .int .i64 y.f4, .slice A5 y.f5.length c5, .slice (some ⟨gi, 0, none⟩) P.length ci] 42 (0, 0))) := ⟨by rw [← hw]; exact blk_put KC_6.out 6 (.slice (some ⟨gi, 0, none⟩) P.length ci) rfl⟩; have K5_7 : Aside0 (w7.heap[g5]? = some (.cells #[.int .i64 0, .int .i64 0] 24 (0, 0))) := ⟨by rw [← hw]; exact blk_far K5_6.out (p := ⟨gc, 6, none⟩) (blk_ne K5_6.out KC_6.out (by decide)) _⟩; have HR7 : Aside0 (Kd.R (Kd.int .i64) 3 w7 w5.heap.size (fun _ => True) (.slice (some ⟨gi, 0, none⟩) P.length ci) P) := ⟨by rw [← hw]; exact Kd.R_mono (Kd.R_far (Kd.R_mono (Kd.R_bound HR6.out) (fun k hk => (fun e => by have h1_ := hk.2.1; have h2_ := blk_lt KC_5.out; omega : k ≠ gc))) (p := ⟨gc, 6, none⟩) (fun _ h => h) _) (fun _ _ => trivial)⟩; have HB7 : Aside0 (Below w1.heap.size w1 w7) := ⟨by rw [← hw]; exact below_set (HB5.out.trans (HB56.out.mono HB5.out.size)) PC.out⟩; clear m6_ u6_ hw
   obtain ⟨s0, s1, s2, s3, s4, s5, s6⟩ := c7 KC_7
   have hFC : (⟨y.f0, y.f1, wrap64 (y.f1 - (y.f5.length : Int)), wrap64 (16 - (P.length : Int)), y.f4, y.f5, P⟩ : S42) = firstC y := by
    have hl6 := HPL.out
    have hu5 := HRY.out.ulen
    have hn6 := HRY.out.nlen
    have hb0 := HRY.out.b0
    have hb1 := HRY.out.b1
    unfold firstC
    rw [HME.out, HP.out, show wrap64 (y.f1 - (y.f5.length : Int)) = y.f1 - (y.f5.length : Int) from by unfold wrap64; omega, show wrap64 (16 - (P.length : Int)) = 16 - ((y.f6.length : Int) + 1) from by unfold wrap64; omega]
   have hsetf : selvedgeref18_set.f (0 + 1001) l y.f0 y.f1 y.f2 y.f3 y.f4 y.f5 P = some (l.set gn (firstC y)) := by
    have h := rset_is l HSM.out gn y.f1 y.f2 y.f3 y.f4 y.f5 P (by have := HRY.out.ulen; omega) (by have := HPL.out; have := HRY.out.nlen; omega) 0
    rw [← HRI.out, hFC] at h
    exact h
   have hset := selvedgeref18_set.calls (0 + 1001) (some ad) c0 l y.f0 y.f1 y.f2 y.f3 y.f4 A5 c5 y.f5 (some ⟨gi, 0, none⟩) ci P _ w7 (Kd.C_below HC.out (HB1.out.trans (HB7.out.mono HB1.out.size))) HCC.out (Kd.C_below G5.out HB7.out) L5.out (Kd.R_reads' HR7.out).2.2 (Kd.R_reads' HR7.out).2.1 hsetf
   clear hFC hsetf
   go_wp2_with (go_at_call 53; refine hset.mono ?_; rintro e w8 ⟨v, rfl, hS, hb⟩; have HS8 := Aside0.mk hS; have HB78 := Aside0.mk hb; have K5_8 := Aside0.mk (blk_below K5_7.out hb); clear hS hb hset s0 s1 s2 s3 s4 s5 s6; have k5_ : w8.cell? ⟨g5, 0, none⟩ = some (.int .i64 0) := (blk_cell K5_8.out 0).trans rfl; have f5_ := blk_frozen K5_8.out 0; have k5a_ : w8.cell? ⟨g5, 1, none⟩ = some (.int .i64 0) := (blk_cell K5_8.out 1).trans rfl; have f5a_ := blk_frozen K5_8.out 1)
   obtain ⟨w9, hw⟩ : ∃ w9, ((w8.setCell ⟨g5, 0, none⟩ (.int .i64 (gn : Int))).setCell ⟨g5, 1, none⟩ (.int .i64 (i : Int))) = w9 := ⟨_, rfl⟩
   rw [hw]
   have K5_9 : w9.heap[g5]? = some (.cells #[.int .i64 (gn : Int), .int .i64 (i : Int)] 24 (0, 0)) := by rw [← hw]; exact blk_put2 K5_8.out rfl _ _
   have HS9 : Kd.S k42 42 w9 w.heap.size (fun _ => True) v (l.set gn (firstC y)) := by rw [← hw]; exact Kd.S_lower (Kd.S_mono (Kd.S_far (Kd.S_far (Kd.S_types HS8.out K5_8.out (by decide)) (p := ⟨g5, 0, none⟩) (fun k hk => hk.2) _) (p := ⟨g5, 1, none⟩) (fun k hk => hk.2) _) (fun _ _ => trivial)) (HB1.out.trans (HB7.out.mono HB1.out.size)).size
   have HB9 : Below w.heap.size w w9 := by rw [← hw]; exact below_set (below_set (HB1.out.trans ((HB7.out.mono HB1.out.size).trans (HB78.out.mono (Nat.le_trans HB1.out.size HB7.out.size)))) P5.out) P5.out
   have c5_ : w9.cell? ⟨g5, 0, none⟩ = some (.int .i64 (gn : Int)) := (blk_cell K5_9 0).trans rfl
   have c5a_ : w9.cell? ⟨g5, 1, none⟩ = some (.int .i64 (i : Int)) := (blk_cell K5_9 1).trans rfl
   obtain ⟨Av_, cv_, rfl⟩ := Kd.S_slice HS9
   refine ⟨rfl, .tuple #[_, .agg #[.int .i64 (gn : Int), .int .i64 (i : Int)], .int .i64 0], ?_, ⟨_, rfl, HS9, HB9⟩⟩
   simp [results, Try.f71, go_sem, c5_, c5a_]
def selvedgeref18_first.f (l : List S42) (g : Int) : Option (List S42 × Int × Int × Int) := if wholeB l = true ∧ 0 ≤ g ∧ g < (l.length : Int) ∧ (rd_T42 l g).f3 ≠ 0 then some (l.set g.toNat (firstC (rd_T42 l g)), g, (mex (rd_T42 l g).f6 : Int), 0) else none
theorem selvedgeref18_first.calls (A0 : Option Addr) (c0 : Nat) (l0 : List S42) (a1 : Int) (r1 : List S42) (r2 r3 r4 : Int) (w : World) (hr0 : Kd.C k42 w A0 l0.length l0) (hc0 : l0.length ≤ c0) (h : selvedgeref18_first.f l0 a1 = some (r1, r2, r3, r4)) :
  Calls Try.prog 71 #[.slice A0 l0.length c0, .int .i64 a1] w fun e w' => ∃ v, e = .returned (.tuple #[v, .agg #[.int .i64 r2, .int .i64 r3], .int .i64 r4]) ∧ Kd.S k42 42 w' w.heap.size (fun _ => True) v r1 ∧ Below w.heap.size w w' := by
 unfold selvedgeref18_first.f at h
 by_cases hc : wholeB l0 = true ∧ 0 ≤ a1 ∧ a1 < (l0.length : Int) ∧ (rd_T42 l0 a1).f3 ≠ 0
 ·rw [if_pos hc] at h
  have h := Option.some.inj h
  obtain ⟨gn, rfl⟩ := Int.eq_ofNat_of_zero_le hc.2.1
  have hgl : gn < l0.length := by omega
  rw [rdT_at l0 gn hgl, Int.toNat_natCast] at h
  obtain ⟨rfl, rfl, rfl, rfl⟩ : r1 = l0.set gn (firstC l0[gn]) ∧ r2 = (gn : Int) ∧ r3 = (mex l0[gn].f6 : Int) ∧ r4 = 0 := by injection h with h1 h2; injection h2 with h2 h3; injection h3 with h3 h4; exact ⟨h1.symm, h2.symm, h3.symm, h4.symm⟩
  exact rfirst_ok A0 c0 l0 gn w hr0 hc0 hc.1 hgl (by rw [← rdT_at l0 gn hgl]; exact hc.2.2.2)
 ·rw [if_neg hc] at h; cases h
end Go.Proofs.Ytehjmmedghcndaa.PG
