import Derived.Test.YtehjmmedghcndaaCD
import Derived.Test.YtehjmmedghcndaaLT
/-! cyl.first, its walk. -/
namespace Go.Proofs.Ytehjmmedghcndaa.PG
open Go.RowKit Go.Proofs.YtehjmmedghcndaaW.PrintWords Go.Proofs.YtehjmmedghcndaaW.PrintLast Go.Proofs.YtehjmmedghcndaaW.PrintMore
attribute [local go_sem] Oper.semAt_some
theorem blk_far7 {w : World} {g : Nat} {t : TypeId} {cs : Array Value} (h : w.heap[g]? = some (.cells cs t (0, 0))) {q : Nat} (hne : g ≠ q) (o : Nat) (v0 v1 v2 v3 v4 v5 v6 : Value) :
  (((((((w.setCell ⟨q, o, none⟩ v0).setCell ⟨q, o + 1, none⟩ v1).setCell ⟨q, o + 2, none⟩ v2).setCell ⟨q, o + 3, none⟩ v3).setCell ⟨q, o + 4, none⟩ v4).setCell ⟨q, o + 5, none⟩ v5).setCell ⟨q, o + 6, none⟩ v6).heap[g]? = some (.cells cs t (0, 0)) :=
 blk_far (blk_far (blk_far (blk_far (blk_far (blk_far (blk_far h hne v0) hne v1) hne v2) hne v3) hne v4) hne v5) hne v6
theorem below_set7 {B : Nat} {w0 W : World} (h : Below B w0 W) {q : Nat} (hq : B ≤ q) (o : Nat) (v0 v1 v2 v3 v4 v5 v6 : Value) :
  Below B w0 (((((((W.setCell ⟨q, o, none⟩ v0).setCell ⟨q, o + 1, none⟩ v1).setCell ⟨q, o + 2, none⟩ v2).setCell ⟨q, o + 3, none⟩ v3).setCell ⟨q, o + 4, none⟩ v4).setCell ⟨q, o + 5, none⟩ v5).setCell ⟨q, o + 6, none⟩ v6) :=
 ((((((h.setCell (p := ⟨q, o, none⟩) hq v0).setCell (p := ⟨q, o + 1, none⟩) hq v1).setCell (p := ⟨q, o + 2, none⟩) hq v2).setCell (p := ⟨q, o + 3, none⟩) hq v3).setCell (p := ⟨q, o + 4, none⟩) hq v4).setCell (p := ⟨q, o + 5, none⟩) hq v5).setCell (p := ⟨q, o + 6, none⟩) hq v6
set_option maxHeartbeats 4000000 in
set_option maxRecDepth 100000 in
theorem first_none (A0 : Option Addr) (c0 : Nat) (l : List S42) (g : Int) (w : World) (hC : Kd.C k42 w A0 l.length l) (hc0 : l.length ≤ c0) (hw : wholeB l = true) (h0 : 0 ≤ g) (h1 : g < (l.length : Int)) (hz : (rd_T42 l g).f3 = 0) :
  Calls Try.prog 56 #[.slice A0 l.length c0, .int .i64 g] w fun e w' => e = .returned (.tuple #[.slice none 0 0, .agg #[.int .i64 0, .int .i64 0], .bool false]) ∧ Below w.heap.size w w' := by
 have hw_ := (whole_iff l).1 hw
 have hn := hw_.n1
 obtain ⟨gn, rfl⟩ := Int.eq_ofNat_of_zero_le h0
 have hgl : gn < l.length := by omega
 have hry := (hw_.at_ gn hgl).2
 have hsm := hw_.small
 have p1 : (0 ≤ (gn : Int)) = True := eq_true h0
 have q1 : ((gn : Int) < (l.length : Int)) = True := eq_true h1
 have HC := Aside0.mk hC
 have HCC := Aside0.mk hc0
 have hat := fun W (hb : Below w.heap.size w W) => at_T42 (Kd.C_below HC.out hb) (gn : Int) h0 h1
 simp only [Int.toNat_natCast] at hat
 have HGL := Aside0.mk hgl
 have HSM := Aside0.mk hsm
 have hyy := rdT_at l gn hgl
 rw [hyy] at hat hz
 (try rw [hyy])
 obtain ⟨y, hy⟩ : ∃ y, l[gn] = y := ⟨_, rfl⟩
 rw [hy] at hry hat hz
 (try rw [hy])
 have HRY := Aside0.mk hry
 clear hC hc0 hw hw_ hn hgl hsm hyy hy hry h0 h1
 have hu42 := Try.underlying42
 have hu24 := Try.underlying24
 have fz : (y.f3 == 0) = true := beq_iff_eq.mpr hz
 clear hz
 go_enter Try.func56, Try.ntmps56
 go_upto_region 2 with (first | ((with_reducible refine gate_dst (N := 5) rfl ?_); refine box_event rfl (N := 5) rfl (cs := #[.int .i64 0, .int .i64 0]) (t := 24) (by first | (go_simp; done) | (go_simp; rfl)) ?_; intro gr hg w2 hbox hb; have BR := Aside0.mk hbox; have HB := Aside0.mk hb; have GR := Aside0.mk (show w.heap.size ≤ gr by omega); obtain ⟨ad, A5, c5, A6, c6, rfl, y0, y1, y2, y3, y4, y5, y6, l5, g5, l6, g6⟩ := hat w2 hb; have G5 := Aside0.mk g5; have G6 := Aside0.mk g6; have L5 := Aside0.mk l5; have L6 := Aside0.mk l6; clear hat g5 g6 l5 l6; clear hb hbox hg) | ((with_reducible refine gate_dst (N := 7) rfl ?_); refine box_event rfl (N := 7) rfl (cs := #[.int .i64 0, .int .i64 0, .int .i64 0, .int .i64 0, .int .i64 0, .slice none 0 0, .slice none 0 0]) (t := 42) (by first | (go_simp; done) | (go_simp; rfl)) ?_; intro gc hg w3 hbox hb; have BC := Aside0.mk hbox; have BR3 := Aside0.mk (blk_below BR.out hb); have HB3 := Aside0.mk (below_step HB.out hb); have HB23 := Aside0.mk hb; have GC := Aside0.mk (show w.heap.size ≤ gc by rw [hg]; exact HB.out.size); have GC2 := Aside0.mk (show w2.heap.size ≤ gc by omega); have GN := Aside0.mk (show gr ≠ gc by rw [hg]; have := blk_lt BR.out; omega); clear BR HB; obtain ⟨r0, r1, r2, r3, r4, r5, r6, z0, z1, z2, z3, z4, z5, z6⟩ := cf7 BC; clear hb hbox hg) | ((with_reducible refine gate_store (t := 42) (p := 7) rfl ?_); refine store_event (t := 42) (p := 7) (v := ?vo_w4) (w1 := (((((((w3.setCell ⟨gc, 0, none⟩ (.int .i64 y.f0)).setCell ⟨gc, 1, none⟩ (.int .i64 y.f1)).setCell ⟨gc, 2, none⟩ (.int .i64 y.f2)).setCell ⟨gc, 3, none⟩ (.int .i64 y.f3)).setCell ⟨gc, 4, none⟩ (.int .i64 y.f4)).setCell ⟨gc, 5, none⟩ (.slice A5 y.f5.length c5)).setCell ⟨gc, 6, none⟩ (.slice A6 y.f6.length c6))) ?hg ?ho ?hn ?hr ?_; (case ho => rfl); (case hg => rfl); (case hn => rfl); (case hr => first | (go_simp; done) | (go_simp; rfl)); intro w4 hw; have BC4 : Aside0 (w4.heap[gc]? = some (.cells #[.int .i64 y.f0, .int .i64 y.f1, .int .i64 y.f2, .int .i64 y.f3, .int .i64 y.f4, .slice A5 y.f5.length c5, .slice A6 y.f6.length c6] 42 (0, 0))) := ⟨by rw [hw]; exact blk_put7 BC.out rfl _ _ _ _ _ _ _⟩; have BR4 : Aside0 (w4.heap[gr]? = some (.cells #[.int .i64 0, .int .i64 0] 24 (0, 0))) := ⟨by rw [hw]; exact blk_far7 BR3.out GN.out 0 _ _ _ _ _ _ _⟩; have HB4 : Aside0 (Below w.heap.size w w4) := ⟨by rw [hw]; exact below_set7 HB3.out GC.out 0 _ _ _ _ _ _ _⟩; have HB24 : Aside0 (Below w2.heap.size w2 w4) := ⟨by rw [hw]; exact below_set7 HB23.out GC2.out 0 _ _ _ _ _ _ _⟩; clear BC BR3 HB3 HB23 r0 r1 r2 r3 r4 r5 r6 z0 z1 z2 z3 z4 z5 z6 y0 y1 y2 y3 y4 y5 y6; clear hw))
 obtain ⟨c0, c1, c2, c3, c4, c5, c6⟩ := c7 BC4
 obtain ⟨r0, r1, z0, z1⟩ := cf2 BR4
 go_wp2
 refine bodyPost_ret (results_list (rs := [.tmp 4, .cell 5 24, .tmp 6]) rfl (by simp) (.tmp (.cell gr 24 #[.int .i64 0, .int .i64 0] (0, 0) _ rfl (blk_put2 BR4.out rfl _ _) Try.underlying24 rfl (by kernel_rfl) (.tmp .nil)))) rfl ?_
 exact ⟨rfl, below_set (below_set HB4.out GR.out) GR.out⟩
set_option maxHeartbeats 8000000 in
set_option maxRecDepth 100000 in
theorem first_some (A0 : Option Addr) (c0 : Nat) (l : List S42) (g : Int) (w : World) (hC : Kd.C k42 w A0 l.length l) (hc0 : l.length ≤ c0) (hw : wholeB l = true) (h0 : 0 ≤ g) (h1 : g < (l.length : Int)) (hz : (rd_T42 l g).f3 ≠ 0) :
  Calls Try.prog 56 #[.slice A0 l.length c0, .int .i64 g] w fun e w' => ∃ v, e = .returned (.tuple #[v, .agg #[.int .i64 g, .int .i64 (mex (rd_T42 l g).f6 : Int)], .bool true]) ∧ Kd.S k42 42 w' w.heap.size (fun _ => True) v (l.set g.toNat (firstC (rd_T42 l g))) ∧ Below w.heap.size w w' := by
 have hw_ := (whole_iff l).1 hw
 have hn := hw_.n1
 obtain ⟨gn, rfl⟩ := Int.eq_ofNat_of_zero_le h0
 have hgl : gn < l.length := by omega
 have hry := (hw_.at_ gn hgl).2
 have hsm := hw_.small
 have p1 : (0 ≤ (gn : Int)) = True := eq_true h0
 have q1 : ((gn : Int) < (l.length : Int)) = True := eq_true h1
 have HC := Aside0.mk hC
 have HCC := Aside0.mk hc0
 have hat := fun W (hb : Below w.heap.size w W) => at_T42 (Kd.C_below HC.out hb) (gn : Int) h0 h1
 simp only [Int.toNat_natCast] at hat
 have HGL := Aside0.mk hgl
 have HSM := Aside0.mk hsm
 have hyy := rdT_at l gn hgl
 rw [hyy] at hat hz
 (try rw [hyy])
 obtain ⟨y, hy⟩ : ∃ y, l[gn] = y := ⟨_, rfl⟩
 rw [hy] at hry hat hz
 (try rw [hy])
 have HRY := Aside0.mk hry
 clear hC hc0 hw hw_ hn hgl hsm hyy hy hry h0 h1
 have hu42 := Try.underlying42
 have hu24 := Try.underlying24
 have fz : (y.f3 == 0) = false := beq_eq_false_iff_ne.2 hz
 clear hz
 simp only [Int.toNat_natCast]
 go_enter Try.func56, Try.ntmps56
 go_upto_region 2 with (first | ((with_reducible refine gate_dst (N := 5) rfl ?_); refine box_event rfl (N := 5) rfl (cs := #[.int .i64 0, .int .i64 0]) (t := 24) (by first | (go_simp; done) | (go_simp; rfl)) ?_; intro gr hg w2 hbox hb; have BR := Aside0.mk hbox; have HB := Aside0.mk hb; have GR := Aside0.mk (show w.heap.size ≤ gr by omega); obtain ⟨ad, A5, c5, A6, c6, rfl, y0, y1, y2, y3, y4, y5, y6, l5, g5, l6, g6⟩ := hat w2 hb; have G5 := Aside0.mk g5; have G6 := Aside0.mk g6; have L5 := Aside0.mk l5; have L6 := Aside0.mk l6; clear hat g5 g6 l5 l6; clear hb hbox hg) | ((with_reducible refine gate_dst (N := 7) rfl ?_); refine box_event rfl (N := 7) rfl (cs := #[.int .i64 0, .int .i64 0, .int .i64 0, .int .i64 0, .int .i64 0, .slice none 0 0, .slice none 0 0]) (t := 42) (by first | (go_simp; done) | (go_simp; rfl)) ?_; intro gc hg w3 hbox hb; have BC := Aside0.mk hbox; have BR3 := Aside0.mk (blk_below BR.out hb); have HB3 := Aside0.mk (below_step HB.out hb); have HB23 := Aside0.mk hb; have GC := Aside0.mk (show w.heap.size ≤ gc by rw [hg]; exact HB.out.size); have GC2 := Aside0.mk (show w2.heap.size ≤ gc by omega); have GN := Aside0.mk (show gr ≠ gc by rw [hg]; have := blk_lt BR.out; omega); clear BR HB; obtain ⟨r0, r1, r2, r3, r4, r5, r6, z0, z1, z2, z3, z4, z5, z6⟩ := cf7 BC; clear hb hbox hg) | ((with_reducible refine gate_store (t := 42) (p := 7) rfl ?_); refine store_event (t := 42) (p := 7) (v := ?vo_w4) (w1 := (((((((w3.setCell ⟨gc, 0, none⟩ (.int .i64 y.f0)).setCell ⟨gc, 1, none⟩ (.int .i64 y.f1)).setCell ⟨gc, 2, none⟩ (.int .i64 y.f2)).setCell ⟨gc, 3, none⟩ (.int .i64 y.f3)).setCell ⟨gc, 4, none⟩ (.int .i64 y.f4)).setCell ⟨gc, 5, none⟩ (.slice A5 y.f5.length c5)).setCell ⟨gc, 6, none⟩ (.slice A6 y.f6.length c6))) ?hg ?ho ?hn ?hr ?_; (case ho => rfl); (case hg => rfl); (case hn => rfl); (case hr => first | (go_simp; done) | (go_simp; rfl)); intro w4 hw; have BC4 : Aside0 (w4.heap[gc]? = some (.cells #[.int .i64 y.f0, .int .i64 y.f1, .int .i64 y.f2, .int .i64 y.f3, .int .i64 y.f4, .slice A5 y.f5.length c5, .slice A6 y.f6.length c6] 42 (0, 0))) := ⟨by rw [hw]; exact blk_put7 BC.out rfl _ _ _ _ _ _ _⟩; have BR4 : Aside0 (w4.heap[gr]? = some (.cells #[.int .i64 0, .int .i64 0] 24 (0, 0))) := ⟨by rw [hw]; exact blk_far7 BR3.out GN.out 0 _ _ _ _ _ _ _⟩; have HB4 : Aside0 (Below w.heap.size w w4) := ⟨by rw [hw]; exact below_set7 HB3.out GC.out 0 _ _ _ _ _ _ _⟩; have HB24 : Aside0 (Below w2.heap.size w2 w4) := ⟨by rw [hw]; exact below_set7 HB23.out GC2.out 0 _ _ _ _ _ _ _⟩; clear BC BR3 HB3 HB23 r0 r1 r2 r3 r4 r5 r6 z0 z1 z2 z3 z4 z5 z6 y0 y1 y2 y3 y4 y5 y6; clear hw))
 obtain ⟨c0_, c1_, c2_, c3_, c4_, c5_, c6_⟩ := c7 BC4
 go_wp2
 go_loopg [8] y.f6.length (fun kq v8 w' => ∃ i : Nat, i + kq = y.f6.length ∧ v8 = .int .i64 (i : Int) ∧ Aside0 (mexF (y.f6.drop i) i = mex y.f6) ∧ w4 = w')
 case atStart => exact ⟨0, by omega, rfl, ⟨rfl⟩, rfl⟩
 case round =>
  obtain ⟨i, hi, rfl, hM, rfl⟩ := hrel
  have hcon : ∀ n : Nat, mex y.f6 = n → (∃ P : List Int, (∀ W, Below w2.heap.size w2 W → Calls Try.prog 49 #[.slice A6 y.f6.length c6, .int .i64 (n : Int)] W fun e w' => ∃ v, e = .returned (.tuple #[v, .bool true]) ∧ Kd.R (Kd.int .i64) 3 w' W.heap.size (fun _ => True) v P ∧ Below W.heap.size W w') ∧ 0 < P.length ∧ SmallC ⟨y.f0, y.f1, y.f2, y.f3, y.f4, y.f5, P⟩ ∧ (⟨y.f0, y.f1, wrap64 (y.f1 - (y.f5.length : Int)), wrap64 (16 - (P.length : Int)), y.f4, y.f5, P⟩ : S42) = firstC y) := fun n hn => by
   have hm := mex_at HRY.out.n
   rw [hn] at hm
   have hl := HRY.out.nlen
   have hl5 := HRY.out.ulen
   have hpl := putAt_len y.f6 n (n : Int)
   refine ⟨putAt y.f6 n (n : Int), fun W hb => ?_, by omega, ⟨by show y.f5.length ≤ 1000; omega, by show (putAt y.f6 n (n : Int)).length ≤ 1000; omega⟩, ?_⟩
   ·have := insert_new A6 c6 y.f6 (n : Int) W (Kd.C_below G6.out hb) L6.out (rise2_all HRY.out.n).2 (by omega) hm.1
    rw [hm.2.1] at this
    exact this
   ·have hb0 := HRY.out.b0
    have hb1 := HRY.out.b1
    unfold firstC
    rw [hn, hpl, counts _ _ 0 (.inl ⟨hb0, hb1⟩) (by omega), counts _ _ 0 (.inr rfl) (by omega)]
    rfl
  cases gk with
  | succ k1 =>
   have hlt : i < y.f6.length := by omega
   have f1 : decide ((i : Int) < (y.f6.length : Int)) = true := decide_eq_true (by omega)
   have r1 : (0 ≤ (i : Int)) = True := eq_true (by omega)
   have r2 : ((i : Int) < (y.f6.length : Int)) = True := eq_true (by omega)
   obtain ⟨ad6, ea, x0⟩ := Kd.at_int (Kd.C_below G6.out HB24.out) (i : Int) (by omega) (by omega)
   cases ea
   rw [rd_at _ _ hlt, Int.toNat_natCast] at x0
   have hst := hM.out
   rw [List.drop_eq_getElem_cons hlt, mexF_cons] at hst
   by_cases he : y.f6[i] = (i : Int)
   ·have HST : Aside0 (mexF (y.f6.drop (i + 1)) (i + 1) = mex y.f6) := ⟨by rw [← hst, if_pos he]⟩
    have fe : ((i : Int) == (i : Int)) = true := by simp
    have ew : Aside0 (wrap64 ((i : Int) + 1) = ((i + 1 : Nat) : Int)) := ⟨w64s i (by have := HRY.out.nlen; omega)⟩
    rw [he] at x0
    clear hst he hcon
    go_wp2
    go_roundg k1
    case rel => exact ⟨i + 1, by omega, by first | rfl | rw [ew.out], HST, rfl⟩
    all_goals omega
   ·have HMX : Aside0 (mex y.f6 = i) := ⟨by rw [← hst, if_neg he]⟩
    have fe : (y.f6[i] == (i : Int)) = false := beq_eq_false_iff_ne.2 he
    obtain ⟨P, hins, hpl, hsp, hfc⟩ := hcon i HMX.out
    have HPL := Aside0.mk hpl
    have HSP := Aside0.mk hsp
    have HFC := Aside0.mk hfc
    generalize y.f6[i] = xi at x0 fe
    clear hst he hcon hpl hsp hfc hM
    go_upto_region 8 with (go_at_call 47; refine (cyl_copied.calls (0 + 1001) (some ad) c0 l l w4 (Kd.C_below HC.out HB4.out) HCC.out (copied_is l HSM.out 0)).mono ?_; rintro e w5 ⟨v9, rfl, hS, hb⟩; obtain ⟨go, co, rfl, hgo1, hgo2, _⟩ := Kd.S_form hS (by have := HGL.out; omega); have HS5 := Aside0.mk hS; have HB45 := Aside0.mk hb; clear hS hb hgo1 hgo2)
    have BC5 := Aside0.mk (blk_below BC4.out HB45.out)
    have BR5 := Aside0.mk (blk_below BR4.out HB45.out)
    have d6 : w5.cell? ⟨gc, 6, none⟩ = some (.slice (some ad6) y.f6.length c6) := (blk_cell BC5.out 6).trans rfl
    clear c0_ c1_ c2_ c3_ c4_ c5_ c6_
    go_upto_region 9 with (first | (go_at_call 49; refine (hins w5 (HB24.out.trans (HB45.out.mono HB24.out.size))).mono ?_; rintro e w6 ⟨v, rfl, hR, hb⟩; obtain ⟨gi, ci, rfl, _, _, _⟩ := Kd.R_form hR HPL.out; have HR6 := Aside0.mk hR; have HB56 := Aside0.mk hb; have BC6 := Aside0.mk (blk_below BC5.out hb); have BR6 := Aside0.mk (blk_below BR5.out hb); clear d6; have d6 : w6.cell? ⟨gc, 6, none⟩ = some (.slice (some ad6) y.f6.length c6) := (blk_cell BC6.out 6).trans rfl; have z6 := blk_frozen BC6.out 6; clear hR hb) | ((with_reducible refine gate_store (t := 40) (p := 43) rfl ?_); refine store_event (t := 40) (p := 43) (v := ?vo_w7) (w1 := (w6.setCell ⟨gc, 6, none⟩ (.slice (some ⟨gi, 0, none⟩) P.length ci))) ?hg ?ho ?hn ?hr ?_; (case ho => rfl); (case hg => rfl); (case hn => rfl); (case hr => first | (go_simp; done) | (go_simp; rfl)); intro w7 hw; have BC7 : Aside0 (w7.heap[gc]? = some (.cells #[.int .i64 y.f0, .int .i64 y.f1, .int .i64 y.f2, .int .i64 y.f3, .int .i64 y.f4, .slice A5 y.f5.length c5, .slice (some ⟨gi, 0, none⟩) P.length ci] 42 (0, 0))) := ⟨by rw [hw]; exact blk_put BC6.out 6 _ rfl⟩; have BR7 : Aside0 (w7.heap[gr]? = some (.cells #[.int .i64 0, .int .i64 0] 24 (0, 0))) := ⟨by rw [hw]; exact blk_far BR6.out GN.out _⟩; have HS7 : Aside0 (Kd.S k42 42 w7 w4.heap.size (fun _ => True) (.slice (some ⟨go, 0, none⟩) l.length co) l) := ⟨by rw [hw]; exact Kd.S_mono (Kd.S_far (Kd.S_mono (Kd.S_bound (Kd.S_below HS5.out HB56.out)) (fun k hk e => by have h_ := hk.2.1; have := blk_lt BC4.out; rw [e] at h_; exact absurd h_ (by show ¬ w4.heap.size ≤ gc; omega))) (fun _ h => h) _) (fun _ _ => trivial)⟩; have HR7 : Aside0 (Kd.R (Kd.int .i64) 3 w7 w5.heap.size (fun _ => True) (.slice (some ⟨gi, 0, none⟩) P.length ci) P) := ⟨by rw [hw]; exact Kd.R_mono (Kd.R_far (Kd.R_mono (Kd.R_bound HR6.out) (fun k hk e => by have h_ := hk.2.1; have := blk_lt BC5.out; rw [e] at h_; exact absurd h_ (by show ¬ w5.heap.size ≤ gc; omega))) (fun _ h => h) _) (fun _ _ => trivial)⟩; have HB7 : Aside0 (Below w.heap.size w w7) := ⟨by rw [hw]; exact below_set (below_step (below_step HB4.out HB45.out) HB56.out) GC.out⟩; have HB27 : Aside0 (Below w2.heap.size w2 w7) := ⟨by rw [hw]; exact below_set ((HB24.out.trans (HB45.out.mono HB24.out.size)).trans (HB56.out.mono (Nat.le_trans HB24.out.size HB45.out.size))) GC2.out⟩; have SZ47 : Aside0 (w4.heap.size ≤ w7.heap.size) := ⟨by rw [hw]; simp only [World.size_setCell]; exact Nat.le_trans HB45.out.size HB56.out.size⟩; clear d6 z6 BC5 BC6 BR5 BR6 HS5 HR6; clear hw))
    obtain ⟨e0, e1, e2, e3, e4, e5, e6⟩ := c7 BC7
    have hown := own_is (⟨y.f0, y.f1, y.f2, y.f3, y.f4, y.f5, P⟩ : S42) HSP.out
    go_upto_region 10 with (first | (go_at_call 66; refine (cyl_own.calls y.f0 y.f1 y.f2 y.f3 y.f4 A5 c5 y.f5 (some ⟨gi, 0, none⟩) ci P y.f0 y.f1 y.f2 y.f3 y.f4 y.f5 P w7 (Kd.C_below G5.out HB27.out) L5.out (Kd.R_reads' HR7.out).2.2 (Kd.R_reads' HR7.out).2.1 hown).mono ?_; rintro e w8 ⟨v5, v6, rfl, ho5, ho6, hb⟩; obtain ⟨A5', c5', rfl⟩ := Kd.R_slice ho5; obtain ⟨A6', c6', rfl⟩ := Kd.R_slice ho6; have HO5 := Aside0.mk ho5; have HO6 := Aside0.mk ho6; have HB78 := Aside0.mk hb; clear ho5 ho6 hb hown e0 e1 e2 e3 e4 e5 e6) | (go_at_call 50; refine (recount_calls y.f0 y.f1 y.f2 y.f3 y.f4 A5' y.f5.length c5' A6' P.length c6' w8).mono ?_; rintro e w9 ⟨rfl, hb⟩; have HB79 := Aside0.mk (below_step HB78.out hb); have HB89 := Aside0.mk hb; have hS9 := Kd.S_below HS7.out HB79.out; obtain ⟨_, ce, hcl, hM, hcc, hfr, _, _⟩ := Kd.S_elem hS9 z42 (gn : Int) (by omega) (by have := HGL.out; omega); obtain ⟨ve5, ve6, rfl, _, _⟩ := k42_openM hM; have x0 : w9.cell? ⟨go, gn * 7, none⟩ = some (.int .i64 (l.getD gn z42).f0) := hcc 0 _ rfl; have x1 : w9.cell? ⟨go, gn * 7 + 1, none⟩ = some (.int .i64 (l.getD gn z42).f1) := hcc 1 _ rfl; have x2 : w9.cell? ⟨go, gn * 7 + 2, none⟩ = some (.int .i64 (l.getD gn z42).f2) := hcc 2 _ rfl; have x3 : w9.cell? ⟨go, gn * 7 + 3, none⟩ = some (.int .i64 (l.getD gn z42).f3) := hcc 3 _ rfl; have x4 : w9.cell? ⟨go, gn * 7 + 4, none⟩ = some (.int .i64 (l.getD gn z42).f4) := hcc 4 _ rfl; have x5 : w9.cell? ⟨go, gn * 7 + 5, none⟩ = some (ve5) := hcc 5 _ rfl; have x6 : w9.cell? ⟨go, gn * 7 + 6, none⟩ = some (ve6) := hcc 6 _ rfl; have z0 : w9.frozen? ⟨go, gn * 7, none⟩ = false := hfr 0; have z1 : w9.frozen? ⟨go, gn * 7 + 1, none⟩ = false := hfr 1; have z2 : w9.frozen? ⟨go, gn * 7 + 2, none⟩ = false := hfr 2; have z3 : w9.frozen? ⟨go, gn * 7 + 3, none⟩ = false := hfr 3; have z4 : w9.frozen? ⟨go, gn * 7 + 4, none⟩ = false := hfr 4; have z5 : w9.frozen? ⟨go, gn * 7 + 5, none⟩ = false := hfr 5; have z6 : w9.frozen? ⟨go, gn * 7 + 6, none⟩ = false := hfr 6; clear hS9 hcl hM hcc hfr hb) | ((with_reducible refine gate_store (t := 42) (p := 49) rfl ?_); refine store_event (t := 42) (p := 49) (v := ?vo_w10) (w1 := (((((((w9.setCell ⟨go, gn * 7, none⟩ (.int .i64 y.f0)).setCell ⟨go, gn * 7 + 1, none⟩ (.int .i64 y.f1)).setCell ⟨go, gn * 7 + 2, none⟩ (.int .i64 (wrap64 (y.f1 - (y.f5.length : Int))))).setCell ⟨go, gn * 7 + 3, none⟩ (.int .i64 (wrap64 (16 - (P.length : Int))))).setCell ⟨go, gn * 7 + 4, none⟩ (.int .i64 y.f4)).setCell ⟨go, gn * 7 + 5, none⟩ (.slice A5' y.f5.length c5')).setCell ⟨go, gn * 7 + 6, none⟩ (.slice A6' P.length c6'))) ?hg ?ho ?hn ?hr ?_; (case ho => rfl); (case hg => rfl); (case hn => rfl); (case hr => first | (go_simp; done) | (go_simp; rfl)); intro w10 hw; have HS10 : Aside0 (Kd.S k42 42 w10 w4.heap.size (fun _ => True) (.slice (some ⟨go, 0, none⟩) l.length co) (l.set gn ⟨y.f0, y.f1, wrap64 (y.f1 - (y.f5.length : Int)), wrap64 (16 - (P.length : Int)), y.f4, y.f5, P⟩)) := ⟨by rw [hw]; exact S_put (Kd.S_below (Kd.S_mono (Kd.S_bound HS7.out) (fun k hk => ⟨fun e => by have h1_ := Kd.R_base HO5.out k e.symm; have h2_ := hk.2.2.1; omega, fun e => by have h1_ := Kd.R_base HO6.out k e.symm; have h2_ := hk.2.2.1; omega⟩)) HB79.out) (Kd.R_lower (Kd.R_below HO5.out HB89.out) SZ47.out) (Kd.R_lower (Kd.R_below HO6.out HB89.out) SZ47.out) (gn : Int) (by omega) (by have := HGL.out; omega) _ _ _ _ _⟩; have BR10 : Aside0 (w10.heap[gr]? = some (.cells #[.int .i64 0, .int .i64 0] 24 (0, 0))) := ⟨by rw [hw]; exact blk_far7 (blk_below BR7.out HB79.out) (show gr ≠ go from fun e => by have h1_ := Kd.S_base HS7.out go rfl; have h2_ := blk_lt BR4.out; omega) (gn * 7) _ _ _ _ _ _ _⟩; have HB10 : Aside0 (Below w.heap.size w w10) := ⟨by rw [hw]; exact below_set7 (below_step HB7.out HB79.out) (Nat.le_trans HB4.out.size (Kd.S_base HS7.out go rfl)) (gn * 7) _ _ _ _ _ _ _⟩; clear x0 x1 x2 x3 x4 x5 x6 z0 z1 z2 z3 z4 z5 z6; clear hw))
    obtain ⟨r0, r1, z0, z1⟩ := cf2 BR10
    go_wp2
    refine bodyPost_ret (results_list (rs := [.tmp 4, .cell 5 24, .tmp 6]) rfl (by simp) (.tmp (.cell gr 24 #[.int .i64 (gn : Int), .int .i64 (i : Int)] (0, 0) _ rfl (blk_put2 BR10.out rfl _ _) Try.underlying24 rfl (by kernel_rfl) (.tmp .nil)))) rfl ?_
    refine ⟨_, by rw [HMX.out]; rfl, ?_, below_set (below_set HB10.out GR.out) GR.out⟩
    have e_ : (⟨y.f0, y.f1, wrap64 (y.f1 - (y.f5.length : Int)), wrap64 (16 - (P.length : Int)), y.f4, y.f5, P⟩ : S42) = firstC y := HFC.out
    have HS11 := HS10.out
    rw [e_] at HS11
    have hfar : ∀ k, (True ∧ w4.heap.size ≤ k ∧ k < w10.heap.size ∧ ∃ q, q ∈ 42 :: k42.E ∧ ∃ cells, w10.heap[k]? = some (.cells cells q (0, 0))) → k ≠ gr := fun k hk e => by have h1_ := hk.2.1; have h2_ := blk_lt BR4.out; omega
    exact Kd.S_lower (Kd.S_mono (Kd.S_far (Kd.S_far (Kd.S_mono (Kd.S_bound HS11) hfar) (p := ⟨gr, 0, none⟩) (fun _ h => h) _) (p := ⟨gr, 1, none⟩) (fun _ h => h) _) (fun _ _ => trivial)) HB4.out.size
  | zero =>
   obtain rfl : i = y.f6.length := by omega
   have f1 : decide ((y.f6.length : Int) < (y.f6.length : Int)) = false := by simp
   have HMX : Aside0 (mex y.f6 = y.f6.length) := ⟨by rw [← hM.out, List.drop_length]; rfl⟩
   obtain ⟨P, hins, hpl, hsp, hfc⟩ := hcon y.f6.length HMX.out
   have HPL := Aside0.mk hpl
   have HSP := Aside0.mk hsp
   have HFC := Aside0.mk hfc
   clear hcon hpl hsp hfc hM hi
   go_upto_region 8 with (go_at_call 47; refine (cyl_copied.calls (0 + 1001) (some ad) c0 l l w4 (Kd.C_below HC.out HB4.out) HCC.out (copied_is l HSM.out 0)).mono ?_; rintro e w5 ⟨v9, rfl, hS, hb⟩; obtain ⟨go, co, rfl, hgo1, hgo2, _⟩ := Kd.S_form hS (by have := HGL.out; omega); have HS5 := Aside0.mk hS; have HB45 := Aside0.mk hb; clear hS hb hgo1 hgo2)
   have BC5 := Aside0.mk (blk_below BC4.out HB45.out)
   have BR5 := Aside0.mk (blk_below BR4.out HB45.out)
   have d6 : w5.cell? ⟨gc, 6, none⟩ = some (.slice A6 y.f6.length c6) := (blk_cell BC5.out 6).trans rfl
   clear c0_ c1_ c2_ c3_ c4_ c5_ c6_
   go_upto_region 9 with (first | (go_at_call 49; refine (hins w5 (HB24.out.trans (HB45.out.mono HB24.out.size))).mono ?_; rintro e w6 ⟨v, rfl, hR, hb⟩; obtain ⟨gi, ci, rfl, _, _, _⟩ := Kd.R_form hR HPL.out; have HR6 := Aside0.mk hR; have HB56 := Aside0.mk hb; have BC6 := Aside0.mk (blk_below BC5.out hb); have BR6 := Aside0.mk (blk_below BR5.out hb); clear d6; have d6 : w6.cell? ⟨gc, 6, none⟩ = some (.slice A6 y.f6.length c6) := (blk_cell BC6.out 6).trans rfl; have z6 := blk_frozen BC6.out 6; clear hR hb) | ((with_reducible refine gate_store (t := 40) (p := 43) rfl ?_); refine store_event (t := 40) (p := 43) (v := ?vp_w7) (w1 := (w6.setCell ⟨gc, 6, none⟩ (.slice (some ⟨gi, 0, none⟩) P.length ci))) ?hg ?ho ?hn ?hr ?_; (case ho => rfl); (case hg => rfl); (case hn => rfl); (case hr => first | (go_simp; done) | (go_simp; rfl)); intro w7 hw; have BC7 : Aside0 (w7.heap[gc]? = some (.cells #[.int .i64 y.f0, .int .i64 y.f1, .int .i64 y.f2, .int .i64 y.f3, .int .i64 y.f4, .slice A5 y.f5.length c5, .slice (some ⟨gi, 0, none⟩) P.length ci] 42 (0, 0))) := ⟨by rw [hw]; exact blk_put BC6.out 6 _ rfl⟩; have BR7 : Aside0 (w7.heap[gr]? = some (.cells #[.int .i64 0, .int .i64 0] 24 (0, 0))) := ⟨by rw [hw]; exact blk_far BR6.out GN.out _⟩; have HS7 : Aside0 (Kd.S k42 42 w7 w4.heap.size (fun _ => True) (.slice (some ⟨go, 0, none⟩) l.length co) l) := ⟨by rw [hw]; exact Kd.S_mono (Kd.S_far (Kd.S_mono (Kd.S_bound (Kd.S_below HS5.out HB56.out)) (fun k hk e => by have h_ := hk.2.1; have := blk_lt BC4.out; rw [e] at h_; exact absurd h_ (by show ¬ w4.heap.size ≤ gc; omega))) (fun _ h => h) _) (fun _ _ => trivial)⟩; have HR7 : Aside0 (Kd.R (Kd.int .i64) 3 w7 w5.heap.size (fun _ => True) (.slice (some ⟨gi, 0, none⟩) P.length ci) P) := ⟨by rw [hw]; exact Kd.R_mono (Kd.R_far (Kd.R_mono (Kd.R_bound HR6.out) (fun k hk e => by have h_ := hk.2.1; have := blk_lt BC5.out; rw [e] at h_; exact absurd h_ (by show ¬ w5.heap.size ≤ gc; omega))) (fun _ h => h) _) (fun _ _ => trivial)⟩; have HB7 : Aside0 (Below w.heap.size w w7) := ⟨by rw [hw]; exact below_set (below_step (below_step HB4.out HB45.out) HB56.out) GC.out⟩; have HB27 : Aside0 (Below w2.heap.size w2 w7) := ⟨by rw [hw]; exact below_set ((HB24.out.trans (HB45.out.mono HB24.out.size)).trans (HB56.out.mono (Nat.le_trans HB24.out.size HB45.out.size))) GC2.out⟩; have SZ47 : Aside0 (w4.heap.size ≤ w7.heap.size) := ⟨by rw [hw]; simp only [World.size_setCell]; exact Nat.le_trans HB45.out.size HB56.out.size⟩; clear d6 z6 BC5 BC6 BR5 BR6 HS5 HR6; clear hw))
   obtain ⟨e0, e1, e2, e3, e4, e5, e6⟩ := c7 BC7
   have hown := own_is (⟨y.f0, y.f1, y.f2, y.f3, y.f4, y.f5, P⟩ : S42) HSP.out
   go_upto_region 10 with (first | (go_at_call 66; refine (cyl_own.calls y.f0 y.f1 y.f2 y.f3 y.f4 A5 c5 y.f5 (some ⟨gi, 0, none⟩) ci P y.f0 y.f1 y.f2 y.f3 y.f4 y.f5 P w7 (Kd.C_below G5.out HB27.out) L5.out (Kd.R_reads' HR7.out).2.2 (Kd.R_reads' HR7.out).2.1 hown).mono ?_; rintro e w8 ⟨v5, v6, rfl, ho5, ho6, hb⟩; obtain ⟨A5', c5', rfl⟩ := Kd.R_slice ho5; obtain ⟨A6', c6', rfl⟩ := Kd.R_slice ho6; have HO5 := Aside0.mk ho5; have HO6 := Aside0.mk ho6; have HB78 := Aside0.mk hb; clear ho5 ho6 hb hown e0 e1 e2 e3 e4 e5 e6) | (go_at_call 50; refine (recount_calls y.f0 y.f1 y.f2 y.f3 y.f4 A5' y.f5.length c5' A6' P.length c6' w8).mono ?_; rintro e w9 ⟨rfl, hb⟩; have HB79 := Aside0.mk (below_step HB78.out hb); have HB89 := Aside0.mk hb; have hS9 := Kd.S_below HS7.out HB79.out; obtain ⟨_, ce, hcl, hM, hcc, hfr, _, _⟩ := Kd.S_elem hS9 z42 (gn : Int) (by omega) (by have := HGL.out; omega); obtain ⟨ve5, ve6, rfl, _, _⟩ := k42_openM hM; have x0 : w9.cell? ⟨go, gn * 7, none⟩ = some (.int .i64 (l.getD gn z42).f0) := hcc 0 _ rfl; have x1 : w9.cell? ⟨go, gn * 7 + 1, none⟩ = some (.int .i64 (l.getD gn z42).f1) := hcc 1 _ rfl; have x2 : w9.cell? ⟨go, gn * 7 + 2, none⟩ = some (.int .i64 (l.getD gn z42).f2) := hcc 2 _ rfl; have x3 : w9.cell? ⟨go, gn * 7 + 3, none⟩ = some (.int .i64 (l.getD gn z42).f3) := hcc 3 _ rfl; have x4 : w9.cell? ⟨go, gn * 7 + 4, none⟩ = some (.int .i64 (l.getD gn z42).f4) := hcc 4 _ rfl; have x5 : w9.cell? ⟨go, gn * 7 + 5, none⟩ = some (ve5) := hcc 5 _ rfl; have x6 : w9.cell? ⟨go, gn * 7 + 6, none⟩ = some (ve6) := hcc 6 _ rfl; have z0 : w9.frozen? ⟨go, gn * 7, none⟩ = false := hfr 0; have z1 : w9.frozen? ⟨go, gn * 7 + 1, none⟩ = false := hfr 1; have z2 : w9.frozen? ⟨go, gn * 7 + 2, none⟩ = false := hfr 2; have z3 : w9.frozen? ⟨go, gn * 7 + 3, none⟩ = false := hfr 3; have z4 : w9.frozen? ⟨go, gn * 7 + 4, none⟩ = false := hfr 4; have z5 : w9.frozen? ⟨go, gn * 7 + 5, none⟩ = false := hfr 5; have z6 : w9.frozen? ⟨go, gn * 7 + 6, none⟩ = false := hfr 6; clear hS9 hcl hM hcc hfr hb) | ((with_reducible refine gate_store (t := 42) (p := 49) rfl ?_); refine store_event (t := 42) (p := 49) (v := ?vp_w10) (w1 := (((((((w9.setCell ⟨go, gn * 7, none⟩ (.int .i64 y.f0)).setCell ⟨go, gn * 7 + 1, none⟩ (.int .i64 y.f1)).setCell ⟨go, gn * 7 + 2, none⟩ (.int .i64 (wrap64 (y.f1 - (y.f5.length : Int))))).setCell ⟨go, gn * 7 + 3, none⟩ (.int .i64 (wrap64 (16 - (P.length : Int))))).setCell ⟨go, gn * 7 + 4, none⟩ (.int .i64 y.f4)).setCell ⟨go, gn * 7 + 5, none⟩ (.slice A5' y.f5.length c5')).setCell ⟨go, gn * 7 + 6, none⟩ (.slice A6' P.length c6'))) ?hg ?ho ?hn ?hr ?_; (case ho => rfl); (case hg => rfl); (case hn => rfl); (case hr => first | (go_simp; done) | (go_simp; rfl)); intro w10 hw; have HS10 : Aside0 (Kd.S k42 42 w10 w4.heap.size (fun _ => True) (.slice (some ⟨go, 0, none⟩) l.length co) (l.set gn ⟨y.f0, y.f1, wrap64 (y.f1 - (y.f5.length : Int)), wrap64 (16 - (P.length : Int)), y.f4, y.f5, P⟩)) := ⟨by rw [hw]; exact S_put (Kd.S_below (Kd.S_mono (Kd.S_bound HS7.out) (fun k hk => ⟨fun e => by have h1_ := Kd.R_base HO5.out k e.symm; have h2_ := hk.2.2.1; omega, fun e => by have h1_ := Kd.R_base HO6.out k e.symm; have h2_ := hk.2.2.1; omega⟩)) HB79.out) (Kd.R_lower (Kd.R_below HO5.out HB89.out) SZ47.out) (Kd.R_lower (Kd.R_below HO6.out HB89.out) SZ47.out) (gn : Int) (by omega) (by have := HGL.out; omega) _ _ _ _ _⟩; have BR10 : Aside0 (w10.heap[gr]? = some (.cells #[.int .i64 0, .int .i64 0] 24 (0, 0))) := ⟨by rw [hw]; exact blk_far7 (blk_below BR7.out HB79.out) (show gr ≠ go from fun e => by have h1_ := Kd.S_base HS7.out go rfl; have h2_ := blk_lt BR4.out; omega) (gn * 7) _ _ _ _ _ _ _⟩; have HB10 : Aside0 (Below w.heap.size w w10) := ⟨by rw [hw]; exact below_set7 (below_step HB7.out HB79.out) (Nat.le_trans HB4.out.size (Kd.S_base HS7.out go rfl)) (gn * 7) _ _ _ _ _ _ _⟩; clear x0 x1 x2 x3 x4 x5 x6 z0 z1 z2 z3 z4 z5 z6; clear hw))
   obtain ⟨r0, r1, z0, z1⟩ := cf2 BR10
   go_wp2
   refine bodyPost_ret (results_list (rs := [.tmp 4, .cell 5 24, .tmp 6]) rfl (by simp) (.tmp (.cell gr 24 #[.int .i64 (gn : Int), .int .i64 (y.f6.length : Int)] (0, 0) _ rfl (blk_put2 BR10.out rfl _ _) Try.underlying24 rfl (by kernel_rfl) (.tmp .nil)))) rfl ?_
   refine ⟨_, by rw [HMX.out]; rfl, ?_, below_set (below_set HB10.out GR.out) GR.out⟩
   have e_ : (⟨y.f0, y.f1, wrap64 (y.f1 - (y.f5.length : Int)), wrap64 (16 - (P.length : Int)), y.f4, y.f5, P⟩ : S42) = firstC y := HFC.out
   have HS11 := HS10.out
   rw [e_] at HS11
   have hfar : ∀ k, (True ∧ w4.heap.size ≤ k ∧ k < w10.heap.size ∧ ∃ q, q ∈ 42 :: k42.E ∧ ∃ cells, w10.heap[k]? = some (.cells cells q (0, 0))) → k ≠ gr := fun k hk e => by have h1_ := hk.2.1; have h2_ := blk_lt BR4.out; omega
   exact Kd.S_lower (Kd.S_mono (Kd.S_far (Kd.S_far (Kd.S_mono (Kd.S_bound HS11) hfar) (p := ⟨gr, 0, none⟩) (fun _ h => h) _) (p := ⟨gr, 1, none⟩) (fun _ h => h) _) (fun _ _ => trivial)) HB4.out.size
def cyl_first.f (l : List S42) (g : Int) : Option (List S42 × Int × Int × Bool) := if wholeB l = true ∧ 0 ≤ g ∧ g < (l.length : Int) then some (firstS l g) else none
theorem cyl_first.calls (A0 : Option Addr) (c0 : Nat) (l0 : List S42) (a1 : Int) (r1 : List S42) (r2 r3 : Int) (r4 : Bool) (w : World) (hr0 : Kd.C k42 w A0 l0.length l0) (hc0 : l0.length ≤ c0) (h : cyl_first.f l0 a1 = some (r1, r2, r3, r4)) :
  Calls Try.prog 56 #[.slice A0 l0.length c0, .int .i64 a1] w fun e w' => ∃ v, e = .returned (.tuple #[v, .agg #[.int .i64 r2, .int .i64 r3], .bool r4]) ∧ Kd.S k42 42 w' w.heap.size (fun _ => True) v r1 ∧ Below w.heap.size w w' := by
 unfold cyl_first.f at h
 by_cases hc : wholeB l0 = true ∧ 0 ≤ a1 ∧ a1 < (l0.length : Int)
 ·rw [if_pos hc] at h
  have h := Option.some.inj h
  unfold firstS at h
  by_cases hz : (rd_T42 l0 a1).f3 = 0
  ·rw [if_pos hz] at h
   obtain ⟨rfl, rfl, rfl, rfl⟩ : r1 = [] ∧ r2 = 0 ∧ r3 = 0 ∧ r4 = false := by injection h with h1 h2; injection h2 with h2 h3; injection h3 with h3 h4; exact ⟨h1.symm, h2.symm, h3.symm, h4.symm⟩
   exact (first_none A0 c0 l0 a1 w hr0 hc0 hc.1 hc.2.1 hc.2.2 hz).mono fun e w' ⟨he, hb⟩ => ⟨_, he, Kd.S_nil _ _ _ _ _, hb⟩
  ·rw [if_neg hz] at h
   obtain ⟨rfl, rfl, rfl, rfl⟩ : r1 = l0.set a1.toNat (firstC (rd_T42 l0 a1)) ∧ r2 = a1 ∧ r3 = (mex (rd_T42 l0 a1).f6 : Int) ∧ r4 = true := by injection h with h1 h2; injection h2 with h2 h3; injection h3 with h3 h4; exact ⟨h1.symm, h2.symm, h3.symm, h4.symm⟩
   exact first_some A0 c0 l0 _ w hr0 hc0 hc.1 hc.2.1 hc.2.2 hz
 ·rw [if_neg hc] at h; cases h
end Go.Proofs.Ytehjmmedghcndaa.PG
