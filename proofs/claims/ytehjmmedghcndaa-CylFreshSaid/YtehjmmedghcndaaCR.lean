import Derived.Test.YtehjmmedghcndaaQFr
import Derived.Test.YtehjmmedghcndaaGA
import Derived.Test.YtehjmmedghcndaaGB
import Derived.Test.YtehjmmedghcndaaG7
import Derived.Test.YtehjmmedghcndaaG4
import Derived.Test.YtehjmmedghcndaaCL
/-! The law CylFresh, walked. -/
namespace Go.Proofs.Ytehjmmedghcndaa.PG
open Go.RowKit Go.Proofs.YtehjmmedghcndaaW.PrintWords Go.Proofs.YtehjmmedghcndaaW.PrintLast Go.Proofs.YtehjmmedghcndaaW.PrintMore
attribute [local go_sem] Oper.semAt_some
set_option maxHeartbeats 4000000 in
set_option maxRecDepth 100000 in
theorem fresh_empty (K : Nat) (A0 : Option Addr) (c0 : Nat) (l0 : List Int) (A1 : Option Addr) (c1 : Nat) (l1 : List Int) (a2 : Int) (w : World) (hr0 : Kd.C (Kd.int .u8) w A0 l0.length l0) (hc0 : l0.length ≤ c0) (hr1 : Kd.C (Kd.int .u8) w A1 l1.length l1) (hc1 : l1.length ≤ c1) (hm : selvedgelaw18_made.f K l0 l1 = some []) (h2 : 0 ≤ a2 ∧ a2 ≤ 65535) :
  Calls Try.prog 5 #[.slice A0 l0.length c0, .slice A1 l1.length c1, .int .u16 a2] w fun e w' => e = .returned (.bool true) ∧ Below w.heap.size w w' := by
 have HR0 := Aside0.mk hr0
 have HC0 := Aside0.mk hc0
 have HR1 := Aside0.mk hr1
 have HC1 := Aside0.mk hc1
 have HM := Aside0.mk hm
 clear hr0 hc0 hr1 hc1 hm
 have hu42 := Try.underlying42
 have hu24 := Try.underlying24
 have HT : Aside0 (cyl_Take.f [] 0 0 = some ([], 0, 0, 3)) := ⟨(if_pos ⟨by decide, fun c hc => by cases hc⟩ : cyl_Take.f [] 0 0 = some (takeS [] 0 0))⟩
 go_enter Try.func5, Try.ntmps5
 go_wp2_with (first | (go_at_call 21; refine (selvedgelaw18_made.calls K A0 c0 l0 A1 c1 l1 [] w HR0.out HC0.out HR1.out HC1.out HM.out).mono ?_; rintro e w1 ⟨v, rfl, hS, hb⟩; obtain ⟨Av, cv, rfl⟩ := Kd.S_slice hS; have HS_1 := Aside0.mk hS; have HB1 := Aside0.mk hb; clear hS hb) | (go_at_call 13; refine (cyl_Take.calls Av cv [] 0 0 [] 0 0 3 w1 (Kd.S_reads' HS_1.out).2.2 (Nat.zero_le _) HT.out).mono ?_; rintro e w2 ⟨v2, rfl, hS2, hb⟩; have HB2 := Aside0.mk (below_step HB1.out hb); clear hS2 hb) | ((with_reducible refine gate_dst (N := 9) rfl ?_); refine box_event ?hg (N := 9) ?hd (cs := #[.int .i64 0, .int .i64 0]) (t := 24) ?hr ?_; (case hd => rfl); (case hg => rfl); (case hr => first | (go_simp; done) | (go_simp; rfl)); intro g9 hg w3 hbox hb; have K9_3 := Aside0.mk hbox; have HB3 := Aside0.mk (below_step HB2.out hb); have P9 := Aside0.mk (show w.heap.size ≤ g9 by rw [hg]; exact HB2.out.size); have r0 : w3.cell? ⟨g9, 0, none⟩ = some (.int .i64 0) := (blk_cell K9_3.out 0).trans rfl; have r1 : w3.cell? ⟨g9, 1, none⟩ = some (.int .i64 0) := (blk_cell K9_3.out 1).trans rfl; have z0 := blk_frozen K9_3.out 0; have z1 := blk_frozen K9_3.out 1; clear hb hbox hg) | (go_at_call 17; refine (selvedgelaw18_live.calls true _ rfl).mono ?_; rintro e w5 ⟨rfl, hb⟩; have HB5 := Aside0.mk (below_step ((HB3.out.setCell (p := ⟨g9, 0, none⟩) P9.out _).setCell (p := ⟨g9, 1, none⟩) P9.out _) hb); clear hb))
 go_ret
 exact ⟨rfl, HB5.out⟩
set_option maxHeartbeats 8000000 in
set_option maxRecDepth 100000 in
theorem fresh_full (K : Nat) (A0 : Option Addr) (c0 : Nat) (l0 : List Int) (A1 : Option Addr) (c1 : Nat) (l1 : List Int) (an : Nat) (w : World) (hr0 : Kd.C (Kd.int .u8) w A0 l0.length l0) (hc0 : l0.length ≤ c0) (hr1 : Kd.C (Kd.int .u8) w A1 l1.length l1) (hc1 : l1.length ≤ c1) (L : List S42) (hw : WholeP L) (hm : selvedgelaw18_made.f K l0 l1 = some L) (h2 : an ≤ 65535) (gn mn qn bn : Nat) (hgl : gn < L.length) (hgn : an % L.length = gn) (hmn : L[gn].f1 = (mn : Int)) (hqn : an / 16 = qn) (hbn : qn % mn = bn) (hnone : ∀ x ∈ roundL gn L.length, freeAt L (gn : Int) (bn : Int) x = none) :
  Calls Try.prog 5 #[.slice A0 l0.length c0, .slice A1 l1.length c1, .int .u16 (an : Int)] w fun e w' => e = .returned (.bool true) ∧ Below w.heap.size w w' := by
 have HR0 := Aside0.mk hr0
 have HC0 := Aside0.mk hc0
 have HR1 := Aside0.mk hr1
 have HC1 := Aside0.mk hc1
 have HM := Aside0.mk hm
 clear hr0 hc0 hr1 hc1 hm
 have hu42 := Try.underlying42
 have hu24 := Try.underlying24
 have hpos := hw.n0
 have hn16 := hw.n1
 obtain ⟨b0_, b1_⟩ := sum_bd L hw.mem
 have hy1 := (hw.at_ gn hgl).2
 have hmn1 : 1 ≤ mn ∧ mn ≤ 64 := by have := hy1.b0; have := hy1.b1; omega
 have hq2 : qn ≤ 65535 := by rw [← hqn]; omega
 have e1 : Int.tmod (an : Int) (L.length : Int) = (gn : Int) := by rw [← hgn]; exact Int.ofNat_tmod _ _
 have e2 : (an : Int) % (L.length : Int) = (gn : Int) := by rw [← hgn]; rfl
 have e3 : Int.tdiv (an : Int) 16 = (qn : Int) := by rw [Int.tdiv_eq_ediv_of_nonneg (by omega)]; omega
 have e4 : (an : Int) / 16 = (qn : Int) := by omega
 have e5 : Int.tmod (qn : Int) (mn : Int) = (bn : Int) := by rw [← hbn]; exact Int.ofNat_tmod _ _
 have e6 : (qn : Int) % (mn : Int) = (bn : Int) := by rw [← hbn]; rfl
 have n1 : ((L.length : Int) == 0) = false := by rw [beq_eq_false_iff_ne]; omega
 have n2 : ((mn : Int) == 0) = false := by rw [beq_eq_false_iff_ne]; omega
 have n3 : ¬ (L.length : Int) = 0 := by omega
 have n4 : ¬ (mn : Int) = 0 := by omega
 have n5 : ¬ L.length = 0 := by omega
 have n6 : ¬ mn = 0 := by omega
 have p1 : (0 ≤ (gn : Int)) = True := eq_true (by omega)
 have q1 : ((gn : Int) < (L.length : Int)) = True := eq_true (by omega)
 have lz : decide ((L.length : Int) = 0) = false := decide_eq_false n3
 have hFr := free_is L hw 0
 have HW := Aside0.mk hw
 have HGL := Aside0.mk hgl
 have HMN := Aside0.mk hmn
 have HPOS := Aside0.mk hpos
 have HFR := Aside0.mk hFr
 have HGN := Aside0.mk (And.intro hgn (And.intro hqn hbn))
 have HBN : Aside0 (0 ≤ (bn : Int) ∧ (bn : Int) < L[gn].f1) := ⟨by rw [hmn, ← hbn]; have := Nat.mod_lt qn (show 0 < mn by omega); omega⟩
 have hwa : IntKind.i64.wrap (an : Int) = (an : Int) := IntWalk.i64_in _ (by omega)
 have hm0 := may46 hw hgl HBN.out.1 HBN.out.2
 have hz := take_none hm0 (by rw [Int.toNat_natCast]; exact hnone)
 have HT : Aside0 (cyl_Take.f L (gn : Int) (bn : Int) = some ([], 0, 0, 4)) := ⟨by
  unfold cyl_Take.f
  rw [if_pos hw.small]
  rcases takeS_cases L (gn : Int) (bn : Int) with ⟨h, _⟩ | ⟨_, h, _⟩ | ⟨_, xn, hx, y, h, h3, h4, h5⟩
  ·exact absurd hm0 h
  ·rw [h]
  ·exfalso
   have := hnone (xn : Int) (roundL_all hx)
   unfold takeS at h
   rw [if_neg (fun h => h hm0), List.findSome?_eq_none_iff.2 (fun t ht => by rw [Int.toNat_natCast] at ht; rw [hnone t ht]; rfl)] at h
   have := congrArg (fun q => q.2.2.2) h
   cases this⟩
 rw [hz] at HFR
 have HZ := Aside0.mk hz
 clear hw hgn hqn hbn hFr hnone hmn hm0 hz b0_ b1_ hy1
 go_enter Try.func5, Try.ntmps5
 go_upto_region 6 with (first | (go_at_call 21; refine (selvedgelaw18_made.calls K A0 c0 l0 A1 c1 l1 L w HR0.out HC0.out HR1.out HC1.out HM.out).mono ?_; rintro e w1 ⟨v, rfl, hS, hb⟩; obtain ⟨gl, cl, rfl, _, _, _⟩ := Kd.S_form hS (by have := HPOS.out; omega); have HS_1 := Aside0.mk hS; have HB1 := Aside0.mk hb; clear hS hb))
 obtain ⟨oki_, ce_, _, hM_, hcc_, _, _, _⟩ := Kd.S_elem HS_1.out z42 (gn : Int) (by omega) (by have := HGL.out; omega)
 simp only [Int.toNat_natCast] at hM_ hcc_
 rw [show L.getD gn z42 = L[gn]'HGL.out from by simp [List.getD_eq_getElem?_getD, HGL.out]] at hM_
 obtain ⟨v5_, v6_, rfl, _, _⟩ := k42_openM hM_
 have f1_ : w1.cell? ⟨gl, gn * 7 + 1, none⟩ = some (.int .i64 (mn : Int)) := by rw [← HMN.out]; exact hcc_ 1 _ rfl
 clear hM_ hcc_
 go_upto_region 7 with (first | (go_at_call 13; refine (cyl_Take.calls (some ⟨gl, 0, none⟩) cl L (gn : Int) (bn : Int) [] 0 0 4 w1 (Kd.S_reads' HS_1.out).2.2 (Kd.S_reads' HS_1.out).2.1 HT.out).mono ?_; rintro e w2 ⟨v2, rfl, hS2, hb⟩; have HS_2 := Aside0.mk (Kd.S_below HS_1.out hb); have HB2 := Aside0.mk (below_step HB1.out hb); clear hS2 hb HS_1 f1_) | ((with_reducible refine gate_dst (N := 13) rfl ?_); refine box_event ?hg (N := 13) ?hd (cs := #[.int .i64 0, .int .i64 0]) (t := 24) ?hr ?_; (case hd => rfl); (case hg => rfl); (case hr => first | (go_simp; done) | (go_simp; rfl)); intro g13 hg w3 hbox hb; have K13_3 := Aside0.mk hbox; have HB3 := Aside0.mk (below_step HB2.out hb); have P13 := Aside0.mk (show w.heap.size ≤ g13 by rw [hg]; exact HB2.out.size); have HS_3 := Aside0.mk (Kd.S_below HS_2.out hb); have r0 : w3.cell? ⟨g13, 0, none⟩ = some (.int .i64 0) := (blk_cell K13_3.out 0).trans rfl; have r1 : w3.cell? ⟨g13, 1, none⟩ = some (.int .i64 0) := (blk_cell K13_3.out 1).trans rfl; have z0 := blk_frozen K13_3.out 0; have z1 := blk_frozen K13_3.out 1; clear HS_2; clear hb hbox hg))
 clear hwa e1 e2 e3 e4 e5 e6 n1 n2 n3 n4 n5 n6
 obtain ⟨w4, hw_⟩ : ∃ w_, ((w3.setCell ⟨g13, 0, none⟩ (.int .i64 0)).setCell ⟨g13, 1, none⟩ (.int .i64 0)) = w_ := ⟨_, rfl⟩
 rw [hw_]
 have HB4 : Aside0 (Below w.heap.size w w4) := ⟨by rw [← hw_]; exact ((HB3.out.setCell (p := ⟨g13, 0, none⟩) P13.out _).setCell (p := ⟨g13, 1, none⟩) P13.out _)⟩
 have HS_4 : Aside0 (Kd.S k42 42 w4 w.heap.size (fun _ => True) (.slice (some ⟨gl, 0, none⟩) L.length cl) L) := ⟨by rw [← hw_]; exact Kd.S_mono (Kd.S_far (Kd.S_far (Kd.S_types HS_3.out K13_3.out (by decide)) (p := ⟨g13, 0, none⟩) (fun k hk => hk.2) _) (p := ⟨g13, 1, none⟩) (fun k hk => hk.2) _) (fun _ _ => trivial)⟩
 clear r0 r1 z0 z1 HS_3 K13_3 HB3
 clear hw_
 go_wp2_with (first | (go_at_call 22; refine (cyl_Free.calls (0 + 2005) (some ⟨gl, 0, none⟩) cl L 0 (sumI L) w4 (Kd.S_reads' HS_4.out).2.2 (Kd.S_reads' HS_4.out).2.1 HFR.out).mono ?_; rintro e w5 ⟨rfl, hb⟩; have HB5 := Aside0.mk (below_step HB4.out hb); clear hb HS_4) | (go_at_call 17; refine (selvedgelaw18_live.calls true _ rfl).mono ?_; rintro e w6 ⟨rfl, hb⟩; have HB6 := Aside0.mk (below_step HB5.out hb); clear hb))
 go_ret
 exact ⟨rfl, HB6.out⟩
def cr_T14 : Bool × List (List Nat × List Nat) := (true, [([], []), ([], []), ([1], [1]), ([], []), ([], []), ([4], [4]), ([3, 5], [3, 5]), ([6], [6]), ([7], [7]), ([0, 2, 0, 1, 2, 3, 4, 5, 6, 7, 8], [0, 2]), ([9, 0, 1, 2, 3, 4, 5, 6, 7, 8], [9]), ([10, 8, 0, 1, 2, 3, 4, 5, 6, 7, 8], [8, 10])])
def cr_B14 : List Nat := [0, 0, 2, 0, 0, 16, 56, 120, 248, 511, 1023, 2047]
theorem cr_tab14 : rtab .any (opsOf Try.f5 14) = cr_T14 := by kernel_rfl
theorem cr_bits14 : waitsOk cr_T14.2 cr_B14 = true := by kernel_rfl
set_option maxHeartbeats 8000000 in
set_option maxRecDepth 100000 in
theorem fresh_some (K : Nat) (A0 : Option Addr) (c0 : Nat) (l0 : List Int) (A1 : Option Addr) (c1 : Nat) (l1 : List Int) (an : Nat) (w : World) (hr0 : Kd.C (Kd.int .u8) w A0 l0.length l0) (hc0 : l0.length ≤ c0) (hr1 : Kd.C (Kd.int .u8) w A1 l1.length l1) (hc1 : l1.length ≤ c1) (L : List S42) (hw : WholeP L) (hm : selvedgelaw18_made.f K l0 l1 = some L) (h2 : an ≤ 65535) (gn mn qn bn : Nat) (hgl : gn < L.length) (hgn : an % L.length = gn) (hmn : L[gn].f1 = (mn : Int)) (hqn : an / 16 = qn) (hbn : qn % mn = bn)
  (T Y : List S42) (xn yn : Nat) (hxl : xn < L.length) (hTl : T.length = L.length) (hYl : Y.length = L.length) (hxY : xn < Y.length) (hwT : WholeP T) (hT : takeS L (gn : Int) (bn : Int) = (T, (xn : Int), (yn : Int), 0)) (hG : giveS T (xn : Int) (yn : Int) = (Y, 0)) (hG2 : giveS L (xn : Int) (yn : Int) = ([], 5)) (hs : sumB T = sumB L - 1)
  (hback : Y.set xn { Y[xn] with f4 := L[xn].f4 } = L) :
  Calls Try.prog 5 #[.slice A0 l0.length c0, .slice A1 l1.length c1, .int .u16 (an : Int)] w fun e w' => e = .returned (.bool true) ∧ Below w.heap.size w w' := by
 have HR0 := Aside0.mk hr0
 have HC0 := Aside0.mk hc0
 have HR1 := Aside0.mk hr1
 have HC1 := Aside0.mk hc1
 have HM := Aside0.mk hm
 clear hr0 hc0 hr1 hc1 hm
 have hu42 := Try.underlying42
 have hu24 := Try.underlying24
 have hpos := hw.n0
 have hn16 := hw.n1
 obtain ⟨b0_, b1_⟩ := sum_bd L hw.mem
 have hy1 := (hw.at_ gn hgl).2
 have hmn1 : 1 ≤ mn ∧ mn ≤ 64 := by have := hy1.b0; have := hy1.b1; omega
 have hq2 : qn ≤ 65535 := by rw [← hqn]; omega
 have e1 : Int.tmod (an : Int) (L.length : Int) = (gn : Int) := by rw [← hgn]; exact Int.ofNat_tmod _ _
 have e2 : (an : Int) % (L.length : Int) = (gn : Int) := by rw [← hgn]; rfl
 have e3 : Int.tdiv (an : Int) 16 = (qn : Int) := by rw [Int.tdiv_eq_ediv_of_nonneg (by omega)]; omega
 have e4 : (an : Int) / 16 = (qn : Int) := by omega
 have e5 : Int.tmod (qn : Int) (mn : Int) = (bn : Int) := by rw [← hbn]; exact Int.ofNat_tmod _ _
 have e6 : (qn : Int) % (mn : Int) = (bn : Int) := by rw [← hbn]; rfl
 have n1 : ((L.length : Int) == 0) = false := by rw [beq_eq_false_iff_ne]; omega
 have n2 : ((mn : Int) == 0) = false := by rw [beq_eq_false_iff_ne]; omega
 have n3 : ¬ (L.length : Int) = 0 := by omega
 have n4 : ¬ (mn : Int) = 0 := by omega
 have n5 : ¬ L.length = 0 := by omega
 have n6 : ¬ mn = 0 := by omega
 have p1 : (0 ≤ (gn : Int)) = True := eq_true (by omega)
 have q1 : ((gn : Int) < (L.length : Int)) = True := eq_true (by omega)
 have lz : decide ((L.length : Int) = 0) = false := decide_eq_false n3
 have hFr := free_is L hw 0
 have HW := Aside0.mk hw
 have HGL := Aside0.mk hgl
 have HMN := Aside0.mk hmn
 have HPOS := Aside0.mk hpos
 have HFR := Aside0.mk hFr
 have HGN := Aside0.mk (And.intro hgn (And.intro hqn hbn))
 have HBN : Aside0 (0 ≤ (bn : Int) ∧ (bn : Int) < L[gn].f1) := ⟨by rw [hmn, ← hbn]; have := Nat.mod_lt qn (show 0 < mn by omega); omega⟩
 have hwa : IntKind.i64.wrap (an : Int) = (an : Int) := IntWalk.i64_in _ (by omega)
 have hFT := free_is T hwT 0
 rw [hs] at hFT
 have HFT := Aside0.mk hFT
 have HTT : Aside0 (cyl_Take.f L (gn : Int) (bn : Int) = some (T, (xn : Int), (yn : Int), 0)) := ⟨by
  unfold cyl_Take.f
  rw [if_pos hw.small, hT]⟩
 have HG : Aside0 (cyl_Give.f (0 + 1001) T (xn : Int) (yn : Int) = some (Y, 0)) := ⟨by rw [cgive_is T hwT.small, hG]⟩
 have HG2 : Aside0 (cyl_Give.f (0 + 1001) L (xn : Int) (yn : Int) = some ([], 5)) := ⟨by rw [cgive_is L hw.small, hG2]⟩
 have HWT : Aside0 (cyl_Whole.f (0 + 2005) T = some true) := ⟨by rw [whole_is T hwT.small, (whole_iff T).2 hwT]⟩
 have HSA : Aside0 (selvedgeref18_SameAll.f (0 + 2002) L L = some true) := ⟨sameAll_is L hw.small 0⟩
 have HBK := Aside0.mk hback
 have HXL := Aside0.mk hxl
 have HTL := Aside0.mk hTl
 have HYL := Aside0.mk hYl
 obtain ⟨nB, hnB⟩ : ∃ nB, sumB L = nB := ⟨_, rfl⟩
 rw [hnB] at HFR HFT
 have HNB : Aside0 (0 ≤ nB ∧ nB ≤ 1024) := ⟨by rw [← hnB]; omega⟩
 obtain ⟨ra, hra⟩ : ∃ ra, (L[xn]).f4 = ra := ⟨_, rfl⟩
 rw [hra] at HBK
 have HRA := Aside0.mk hra
 clear hw hgn hqn hbn hFr hmn b0_ b1_ hy1 hwT hT hG hG2 hs hback hFT hnB hra hTl hYl
 go_enter Try.func5, Try.ntmps5
 go_upto_region 6 with (first | (go_at_call 21; refine (selvedgelaw18_made.calls K A0 c0 l0 A1 c1 l1 L w HR0.out HC0.out HR1.out HC1.out HM.out).mono ?_; rintro e w1 ⟨v, rfl, hS, hb⟩; obtain ⟨gl, cl, rfl, _, _, _⟩ := Kd.S_form hS (by have := HPOS.out; omega); have HS_1 := Aside0.mk hS; have HB1 := Aside0.mk hb; clear hS hb))
 obtain ⟨oki_, ce_, _, hM_, hcc_, _, _, _⟩ := Kd.S_elem HS_1.out z42 (gn : Int) (by omega) (by have := HGL.out; omega)
 simp only [Int.toNat_natCast] at hM_ hcc_
 rw [show L.getD gn z42 = L[gn]'HGL.out from by simp [List.getD_eq_getElem?_getD, HGL.out]] at hM_
 obtain ⟨v5_, v6_, rfl, _, _⟩ := k42_openM hM_
 have f1_ : w1.cell? ⟨gl, gn * 7 + 1, none⟩ = some (.int .i64 (mn : Int)) := by rw [← HMN.out]; exact hcc_ 1 _ rfl
 clear hM_ hcc_
 go_upto_region 7 with (first | (go_at_call 13; refine (cyl_Take.calls (some ⟨gl, 0, none⟩) cl L (gn : Int) (bn : Int) T (xn : Int) (yn : Int) 0 w1 (Kd.S_reads' HS_1.out).2.2 (Kd.S_reads' HS_1.out).2.1 HTT.out).mono ?_; rintro e w2 ⟨v2, rfl, hS2, hb⟩; have HS_2 := Aside0.mk (Kd.S_below HS_1.out hb); have HB2 := Aside0.mk (below_step HB1.out hb); obtain ⟨gt, ct, rfl, _, _, _⟩ := Kd.S_form hS2 (by have := HPOS.out; have := HTL.out; omega); have HT_2 := Aside0.mk hS2; clear hS2 hb HS_1 f1_) | ((with_reducible refine gate_dst (N := 13) rfl ?_); refine box_event ?hg (N := 13) ?hd (cs := #[.int .i64 0, .int .i64 0]) (t := 24) ?hr ?_; (case hd => rfl); (case hg => rfl); (case hr => first | (go_simp; done) | (go_simp; rfl)); intro g13 hg w3 hbox hb; have K13_3 := Aside0.mk hbox; have HB3 := Aside0.mk (below_step HB2.out hb); have P13 := Aside0.mk (show w.heap.size ≤ g13 by rw [hg]; exact HB2.out.size); have HS_3 := Aside0.mk (Kd.S_below HS_2.out hb); have HT_3 := Aside0.mk (Kd.S_below HT_2.out hb); have r0 : w3.cell? ⟨g13, 0, none⟩ = some (.int .i64 0) := (blk_cell K13_3.out 0).trans rfl; have r1 : w3.cell? ⟨g13, 1, none⟩ = some (.int .i64 0) := (blk_cell K13_3.out 1).trans rfl; have z0 := blk_frozen K13_3.out 0; have z1 := blk_frozen K13_3.out 1; clear HS_2 HT_2; clear hb hbox hg))
 clear hwa e1 e2 e3 e4 e5 e6 n1 n2 n3 n4 n5 n6 p1 q1
 obtain ⟨w4, hw_⟩ : ∃ w_, ((w3.setCell ⟨g13, 0, none⟩ (.int .i64 (xn : Int))).setCell ⟨g13, 1, none⟩ (.int .i64 (yn : Int))) = w_ := ⟨_, rfl⟩
 rw [hw_]
 have HB4 : Aside0 (Below w.heap.size w w4) := ⟨by rw [← hw_]; exact ((HB3.out.setCell (p := ⟨g13, 0, none⟩) P13.out _).setCell (p := ⟨g13, 1, none⟩) P13.out _)⟩
 have K13_4 : Aside0 (w4.heap[g13]? = some (.cells #[.int .i64 (xn : Int), .int .i64 (yn : Int)] 24 (0, 0))) := ⟨by rw [← hw_]; exact blk_put2 K13_3.out rfl _ _⟩
 have HS_4 : Aside0 (Kd.S k42 42 w4 w.heap.size (fun _ => True) (.slice (some ⟨gl, 0, none⟩) L.length cl) L) := ⟨by rw [← hw_]; exact Kd.S_mono (Kd.S_far (Kd.S_far (Kd.S_types HS_3.out K13_3.out (by decide)) (p := ⟨g13, 0, none⟩) (fun k hk => hk.2) _) (p := ⟨g13, 1, none⟩) (fun k hk => hk.2) _) (fun _ _ => trivial)⟩
 have HT_4 : Aside0 (Kd.S k42 42 w4 w1.heap.size (fun _ => True) (.slice (some ⟨gt, 0, none⟩) T.length ct) T) := ⟨by rw [← hw_]; exact Kd.S_mono (Kd.S_far (Kd.S_far (Kd.S_types HT_3.out K13_3.out (by decide)) (p := ⟨g13, 0, none⟩) (fun k hk => hk.2) _) (p := ⟨g13, 1, none⟩) (fun k hk => hk.2) _) (fun _ _ => trivial)⟩
 clear r0 r1 z0 z1 HS_3 HT_3 K13_3 HB3
 clear hw_
 go_upto_region 10 with (go_at_call 22; refine (cyl_Free.calls (0 + 2005) (some ⟨gl, 0, none⟩) cl L nB (sumI L) w4 (Kd.S_reads' HS_4.out).2.2 (Kd.S_reads' HS_4.out).2.1 HFR.out).mono ?_; rintro e w5 ⟨rfl, hb⟩; have K13_5 := Aside0.mk (blk_below K13_4.out hb); have HB5 := Aside0.mk (below_step HB4.out hb); have HS_5 := Aside0.mk (Kd.S_below HS_4.out hb); have HT_5 := Aside0.mk (Kd.S_below HT_4.out hb); clear hb K13_4 HB4 HS_4 HT_4)
 go_upto_region 11 with (go_at_call 22; refine (cyl_Free.calls (0 + 2005) (some ⟨gt, 0, none⟩) ct T (nB - 1) (sumI T) w5 (Kd.S_reads' HT_5.out).2.2 (Kd.S_reads' HT_5.out).2.1 HFT.out).mono ?_; rintro e w6 ⟨rfl, hb⟩; have K13_6 := Aside0.mk (blk_below K13_5.out hb); have HB6 := Aside0.mk (below_step HB5.out hb); have HS_6 := Aside0.mk (Kd.S_below HS_5.out hb); have HT_6 := Aside0.mk (Kd.S_below HT_5.out hb); clear hb K13_5 HB5 HS_5 HT_5)
 have c13a : w6.cell? ⟨g13, 0, none⟩ = some (.int .i64 (xn : Int)) := (blk_cell K13_6.out 0).trans rfl
 have c13b : w6.cell? ⟨g13, 1, none⟩ = some (.int .i64 (yn : Int)) := (blk_cell K13_6.out 1).trans rfl
 go_upto_region 12 with (go_at_call 15; refine (cyl_Give.calls (0 + 1001) (some ⟨gt, 0, none⟩) ct T (xn : Int) (yn : Int) Y 0 w6 (Kd.S_reads' HT_6.out).2.2 (Kd.S_reads' HT_6.out).2.1 HG.out).mono ?_; rintro e w7 ⟨v7, rfl, hY, hb⟩; obtain ⟨gy, cy, rfl, hyb, _, _⟩ := Kd.N_form hY (by have := HPOS.out; have := HYL.out; omega); have HY_7 := Aside0.mk hY; have PY := Aside0.mk hyb; have HB6_ := Aside0.mk HB6.out.size; have SB := Aside0.mk (Kd.S_bound HS_6.out); have KL6 := Aside0.mk (blk_lt K13_6.out); have HS_7 := Aside0.mk (Kd.S_below SB.out hb); clear HS_6 SB hY hyb c13a c13b; have K13_7 := Aside0.mk (blk_below K13_6.out hb); have HB7 := Aside0.mk (below_step HB6.out hb); have HT_7 := Aside0.mk (Kd.S_below HT_6.out hb); clear hb K13_6 HB6 HT_6)
 have hnb := HNB.out
 have hw1 : wrap64 (nB - 1) = nB - 1 := by unfold wrap64; omega
 have hw2 : IntKind.i64.wrap (nB - 1) = nB - 1 := IntWalk.i64_in _ (by omega)
 go_upto_region 14 with (go_at_call 19; refine (cyl_Whole.calls (0 + 2005) (some ⟨gt, 0, none⟩) ct T true w7 (Kd.S_reads' HT_7.out).2.2 (Kd.S_reads' HT_7.out).2.1 HWT.out).mono ?_; rintro e w8 ⟨rfl, hb⟩; have HS_8 := Aside0.mk (Kd.S_below HS_7.out hb); clear HS_7; have K13_8 := Aside0.mk (blk_below K13_7.out hb); have HB8 := Aside0.mk (below_step HB7.out hb); have HY_8 := Aside0.mk (Kd.N_below HY_7.out hb); have HT_8 := Aside0.mk (Kd.S_below HT_7.out hb); clear hb K13_7 HB7 HY_7 HT_7)
 clear hw1 hw2 hnb

 obtain ⟨oki_, ce_, _, hM_, hcc_, _, _, _⟩ := Kd.S_elem HS_8.out z42 (xn : Int) (by omega) (by have := HXL.out; omega)
 simp only [Int.toNat_natCast] at hM_ hcc_
 rw [show L.getD xn z42 = L[xn]'HXL.out from by simp [List.getD_eq_getElem?_getD, HXL.out]] at hM_
 obtain ⟨v5_, v6_, rfl, _, _⟩ := k42_openM hM_
 have s1 : w8.cell? ⟨gl, xn * 7 + 4, none⟩ = some (.int .i64 ra) := by rw [← HRA.out]; exact hcc_ 4 _ rfl
 clear hM_ hcc_
 obtain ⟨cy_, hcy_, hFK_, hcc_, hfr_⟩ := Kd.N_elem HY_8.out z42 (xn : Int) (by omega) (by have := HXL.out; have := HYL.out; omega)
 simp only [Int.toNat_natCast] at hFK_ hcc_ hfr_
 obtain ⟨A5_, c5_, A6_, c6_, rfl, _, _, _, _⟩ := k42_openF hFK_
 have oy : w8.cell? ⟨gy, xn * 7 + 4, none⟩ = some (.int .i64 (Y.getD xn z42).f4) := hcc_ 4 _ rfl
 have zy : w8.frozen? ⟨gy, xn * 7 + 4, none⟩ = false := hfr_ 4
 clear hFK_ hcc_ hfr_ hcy_
 have s0 : w8.cell? ⟨g13, 0, none⟩ = some (.int .i64 (xn : Int)) := (blk_cell K13_8.out 0).trans rfl
 have p1 : (0 ≤ (xn : Int)) = True := eq_true (by omega)
 have q1 : ((xn : Int) < (L.length : Int)) = True := eq_true (by have := HXL.out; omega)
 have q2 : ((xn : Int) < (Y.length : Int)) = True := eq_true (by have := HXL.out; have := HYL.out; omega)
 have PG13 : Aside0 (g13 ≠ gy) := ⟨fun e => by have h1_ := KL6.out; have h2_ := PY.out; omega⟩
 refine start_ (n := 12) (S := fun w' => w'.cell? ⟨g13, 0, none⟩ = some (.int .i64 (xn : Int)) ∧ w'.cell? ⟨gl, xn * 7 + 4, none⟩ = some (.int .i64 ra)) (ds := [11]) #[false, false, false, false, false, false, false, false, false, false, false, false] (by kernel_rfl) rfl rfl ⟨s0, s1⟩ (fun hHeld => ?_); refine with_tabW cr_tab14 cr_bits14 (fun HT_ HW_ => ?_)
 refine pure_ (i := 0) (N := some 103) (v := ?_) (a' := ?_) #[true, false, false, false, false, false, false, false, false, false, false, false] rfl rfl (any_of HT_.out (by kernel_rfl)) (fun _ _ _ h => h) (Or.inl ⟨by rfl, ?_⟩) ?_ ?_
 rotate_left
 ·intro w'
  go_simp
  with_reducible rfl
 rotate_left
 ·simp only [Act.put, List.setIfInBounds_toArray, List.set_cons_zero, List.set_cons_succ]
  rfl
 refine pure_ (i := 1) (N := some 104) (v := ?_) (a' := ?_) #[true, true, false, false, false, false, false, false, false, false, false, false] rfl rfl (any_of HT_.out (by kernel_rfl)) (fun _ _ _ h => h) (Or.inl ⟨by rfl, ?_⟩) ?_ ?_
 rotate_left
 ·intro w'
  go_simp
  with_reducible rfl
 rotate_left
 ·simp only [Act.put, List.setIfInBounds_toArray, List.set_cons_zero, List.set_cons_succ]
  rfl
 refine take_ (i := 2) (N := some 105) (v := ?_) (a' := ?_) #[true, true, true, false, false, false, false, false, false, false, false, false] rfl rfl (take_ofW HT_.out HW_.out (by kernel_rfl)) (fun _ _ _ h => h) (Or.inl ⟨by rfl, ?_⟩) hHeld ?_ ?_
 rotate_left
 ·rintro w' ⟨s0, s1⟩
  go_simp
  with_reducible rfl
 rotate_left
 ·simp only [Act.put, List.setIfInBounds_toArray, List.set_cons_zero, List.set_cons_succ]
  rfl
 refine pure_ (i := 3) (N := some 106) (v := ?_) (a' := ?_) #[true, true, true, true, false, false, false, false, false, false, false, false] rfl rfl (any_of HT_.out (by kernel_rfl)) (fun _ _ _ h => h) (Or.inl ⟨by rfl, ?_⟩) ?_ ?_
 rotate_left
 ·intro w'
  go_simp
  with_reducible rfl
 rotate_left
 ·simp only [Act.put, List.setIfInBounds_toArray, List.set_cons_zero, List.set_cons_succ]
  rfl
 refine pure_ (i := 4) (N := some 107) (v := ?_) (a' := ?_) #[true, true, true, true, true, false, false, false, false, false, false, false] rfl rfl (any_of HT_.out (by kernel_rfl)) (fun _ _ _ h => h) (Or.inl ⟨by rfl, ?_⟩) ?_ ?_
 rotate_left
 ·intro w'
  go_simp
  with_reducible rfl
 rotate_left
 ·simp only [Act.put, List.setIfInBounds_toArray, List.set_cons_zero, List.set_cons_succ]
  rfl
 refine take_ (i := 5) (N := some 108) (v := ?_) (a' := ?_) #[true, true, true, true, true, true, false, false, false, false, false, false] rfl rfl (take_ofW HT_.out HW_.out (by kernel_rfl)) (fun _ _ _ h => h) (Or.inl ⟨by rfl, ?_⟩) hHeld ?_ ?_
 rotate_left
 ·rintro w' ⟨s0, s1⟩
  go_simp
  with_reducible rfl
 rotate_left
 ·simp only [Act.put, List.setIfInBounds_toArray, List.set_cons_zero, List.set_cons_succ]
  rfl
 refine pure_ (i := 6) (N := some 109) (v := ?_) (a' := ?_) #[true, true, true, true, true, true, true, false, false, false, false, false] rfl rfl (any_of HT_.out (by kernel_rfl)) (fun _ _ _ h => h) (Or.inl ⟨by rfl, ?_⟩) ?_ ?_
 rotate_left
 ·intro w'
  go_simp
  with_reducible rfl
 rotate_left
 ·simp only [Act.put, List.setIfInBounds_toArray, List.set_cons_zero, List.set_cons_succ]
  rfl
 refine pure_ (i := 7) (N := some 110) (v := ?_) (a' := ?_) #[true, true, true, true, true, true, true, true, false, false, false, false] rfl rfl (any_of HT_.out (by kernel_rfl)) (fun _ _ _ h => h) (Or.inl ⟨by rfl, ?_⟩) ?_ ?_
 rotate_left
 ·intro w'
  go_simp
  with_reducible rfl
 rotate_left
 ·simp only [Act.put, List.setIfInBounds_toArray, List.set_cons_zero, List.set_cons_succ]
  rfl
 refine take_ (i := 8) (N := some 111) (v := ?_) (a' := ?_) #[true, true, true, true, true, true, true, true, true, false, false, false] rfl rfl (take_ofW HT_.out HW_.out (by kernel_rfl)) (fun _ _ _ h => h) (Or.inl ⟨by rfl, ?_⟩) hHeld ?_ ?_
 rotate_left
 ·rintro w' ⟨s0, s1⟩
  go_simp
  with_reducible rfl
 rotate_left
 ·simp only [Act.put, List.setIfInBounds_toArray, List.set_cons_zero, List.set_cons_succ]
  rfl
 refine pure_ (i := 9) (N := some 112) (v := ?_) (a' := ?_) #[true, true, true, true, true, true, true, true, true, true, false, false] rfl rfl (any_of HT_.out (by kernel_rfl)) (fun _ _ _ h => h) (Or.inl ⟨by rfl, ?_⟩) ?_ ?_
 rotate_left
 ·intro w'
  go_simp
  with_reducible rfl
 rotate_left
 ·simp only [Act.put, List.setIfInBounds_toArray, List.set_cons_zero, List.set_cons_succ]
  rfl
 refine pure_ (i := 10) (N := some 113) (v := ?_) (a' := ?_) #[true, true, true, true, true, true, true, true, true, true, true, false] rfl rfl (any_of HT_.out (by kernel_rfl)) (fun _ _ _ h => h) (Or.inl ⟨by rfl, ?_⟩) ?_ ?_
 rotate_left
 ·intro w'
  go_simp
  with_reducible rfl
 rotate_left
 ·simp only [Act.put, List.setIfInBounds_toArray, List.set_cons_zero, List.set_cons_succ]
  rfl
 refine last_ (i := 11) (N := none) #[true, true, true, true, true, true, true, true, true, true, true, true] rfl rfl (one_of HT_.out (by kernel_rfl)) (by decide) (fun K hK => ?_)
 refine skipE_ (w1 := (w8.drew.setCell ⟨gy, xn * 7 + 4, none⟩ (.int .i64 ra))) (by rfl) rfl (by first | (go_simp; done) | (go_simp; rfl)) (fun w9 hw => ?_)
 have K13_9 : Aside0 (w9.heap[g13]? = some (.cells #[.int .i64 (xn : Int), .int .i64 (yn : Int)] 24 (0, 0))) := ⟨by rw [hw]; exact blk_far (blk_drew K13_8.out) (p := ⟨gy, xn * 7 + 4, none⟩) PG13.out _⟩
 have HB9 : Aside0 (Below w.heap.size w w9) := ⟨by rw [hw]; exact (below_drew HB8.out).setCell (p := ⟨gy, xn * 7 + 4, none⟩) (Nat.le_trans HB6_.out PY.out) _⟩
 have HS_9 : Aside0 (Kd.S k42 42 w9 w.heap.size (fun _ => True) (.slice (some ⟨gl, 0, none⟩) L.length cl) L) := ⟨by rw [hw]; exact Kd.S_mono (Kd.S_far (Kd.S_drew (Kd.S_mono HS_8.out (fun k hk => (fun e => by have h1_ := hk.2; have h2_ := PY.out; omega : k ≠ gy)))) (p := ⟨gy, xn * 7 + 4, none⟩) (fun _ h => h) _) (fun _ _ => trivial)⟩
 have HC_9 : Aside0 (Kd.C k42 w9 (some ⟨gy, 0, none⟩) Y.length L) := ⟨by have h_ := N_set4 (Kd.N_drew HY_8.out) xn (by have := HXL.out; have := HYL.out; omega) ra w9 hw.symm; rw [HBK.out] at h_; exact h_⟩
 clear hw
 refine hK.out _ _ ?_
 clear hK K
 refine done_ (done_of HT_.out (by kernel_rfl)) ?_
 clear p1 q1 q2 oy zy s0 s1
 have c13a : w9.cell? ⟨g13, 0, none⟩ = some (.int .i64 (xn : Int)) := (blk_cell K13_9.out 0).trans rfl
 have c13b : w9.cell? ⟨g13, 1, none⟩ = some (.int .i64 (yn : Int)) := (blk_cell K13_9.out 1).trans rfl
 go_upto_region 16 with (go_at_call 15; refine (cyl_Give.calls (0 + 1001) (some ⟨gl, 0, none⟩) cl L (xn : Int) (yn : Int) [] 5 w9 (Kd.S_reads' HS_9.out).2.2 (Kd.S_reads' HS_9.out).2.1 HG2.out).mono ?_; rintro e w10 ⟨v10, rfl, _, hb⟩; have HC_10 := Aside0.mk (Kd.C_below HC_9.out hb); have K13_10 := Aside0.mk (blk_below K13_9.out hb); have HB10 := Aside0.mk (below_step HB9.out hb); have HS_10 := Aside0.mk (Kd.S_below HS_9.out hb); clear hb K13_9 HB9 HS_9; clear c13a c13b)
 have HYC : Aside0 (L.length ≤ cy) := ⟨by have := (Kd.N_reads' HY_8.out).2.1; have := HYL.out; omega⟩
 have hYL := HYL.out
 rw [hYL] at HC_10
 rw [hYL]
 clear hYL
 go_wp2_with (first | (go_at_call 17; refine (selvedgelaw18_live.calls true _ rfl).mono ?_; rintro e w11 ⟨rfl, hb⟩; have HC_11 := Aside0.mk (Kd.C_below HC_10.out hb); have K13_11 := Aside0.mk (blk_below K13_10.out hb); have HB11 := Aside0.mk (below_step HB10.out hb); have HS_11 := Aside0.mk (Kd.S_below HS_10.out hb); clear hb K13_10 HB10 HS_10) | (go_at_call 18; refine (selvedgeref18_SameAll.calls (0 + 2002) (some ⟨gy, 0, none⟩) cy L (some ⟨gl, 0, none⟩) cl L true w11 HC_11.out HYC.out (Kd.S_reads' HS_11.out).2.2 (Kd.S_reads' HS_11.out).2.1 HSA.out).mono ?_; rintro e w12 ⟨rfl, hb⟩; have K13_12 := Aside0.mk (blk_below K13_11.out hb); have HB12 := Aside0.mk (below_step HB11.out hb); clear hb K13_11 HB11 ))
 go_ret
 exact ⟨rfl, HB12.out⟩
end Go.Proofs.Ytehjmmedghcndaa.PG
