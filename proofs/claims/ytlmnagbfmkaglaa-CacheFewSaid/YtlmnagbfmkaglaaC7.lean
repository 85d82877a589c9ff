import Derived.Test.YtlmnagbfmkaglaaC6
/-! Contracts of the package cache: Use, when the hand goes round. -/
namespace Go.Proofs.Ytlmnagbfmkaglaa.CC
open Go.RowKit Go.Proofs.Ytlmnagbfmkaglaa.PG Go.Proofs.YtlmnagbfmkaglaaW.PrintWords Go.Proofs.YtlmnagbfmkaglaaW.PrintLast Go.Proofs.YtlmnagbfmkaglaaW.PrintMore
attribute [local go_sem] Oper.semAt_some
/-- An element is written whole. -/
theorem row_put4 {B : Nat} {P : Nat → Prop} {w : World} {gr cap m : Nat} {row : List S59} (hR : Kd.R k59 59 w B P (.slice (some ⟨gr, 0, none⟩) m cap) row) (n : Nat) (hn : n < row.length) (y : S59) :
    Kd.R k59 59 ((((w.setCell ⟨gr, n * 4, none⟩ (.int .i64 y.f0)).setCell ⟨gr, n * 4 + 1, none⟩ (.int .i64 y.f1)).setCell ⟨gr, n * 4 + 2, none⟩ (.bool y.f2)).setCell ⟨gr, n * 4 + 3, none⟩ (.bool y.f3)) B P (.slice (some ⟨gr, 0, none⟩) m cap) (row.set n y) ∧ w.grownBy ((((w.setCell ⟨gr, n * 4, none⟩ (.int .i64 y.f0)).setCell ⟨gr, n * 4 + 1, none⟩ (.int .i64 y.f1)).setCell ⟨gr, n * 4 + 2, none⟩ (.bool y.f2)).setCell ⟨gr, n * 4 + 3, none⟩ (.bool y.f3)) (some gr) := by
  have hm := (Kd.R_reads' hR).1
  obtain ⟨c, hc, hM, hcc, hf⟩ := Kd.R_elem hR z59 (n : Int) (by omega) (by omega)
  have := Kd.R_seg (seg := [.int .i64 y.f0, .int .i64 y.f1, .bool y.f2, .bool y.f3]) (j := 0) (x' := y) (okp := fun k => P k ∧ k ≠ gr) hR (n : Int) (by omega) (by omega) hc hcc (by show 0 + 4 ≤ 4; omega) (by
    have hc4 : c.length = 4 := hc
    have e2 : c.take 0 ++ ([.int .i64 y.f0, .int .i64 y.f1, .bool y.f2, .bool y.f3] : List Value) ++ c.drop (0 + 4) = [.int .i64 y.f0, .int .i64 y.f1, .bool y.f2, .bool y.f3] := by rw [List.drop_eq_nil_of_le (by omega)]; simp
    show k59.M w B _ y (c.take 0 ++ ([.int .i64 y.f0, .int .i64 y.f1, .bool y.f2, .bool y.f3] : List Value) ++ c.drop (0 + 4))
    rw [e2]
    exact k59_mkM _ _ _ y) (fun k hk => hk)
  have hs : k59.sz = 4 := rfl
  rw [Int.toNat_natCast, hs] at this
  exact this
def Use_T18 : Bool × List (List Nat × List Nat) := (true, [([], []), ([0], [0]), ([1], [1]), ([2], [2]), ([], []), ([4], [4]), ([5], [5]), ([6], [6]), ([3, 7], [3, 7]), ([8, 0, 1, 2, 3, 4, 5, 6, 7, 8], [8])])
def Use_B18 : List Nat := [0, 1, 3, 7, 0, 16, 48, 112, 255, 511]
theorem Use_tab18 : rtab .any (opsOf Try.f11 18) = Use_T18 := by kernel_rfl
theorem Use_bits18 : waitsOk Use_T18.2 Use_B18 = true := by kernel_rfl
def Use_T19 : Bool × List (List Nat × List Nat) := (true, [([], []), ([], []), ([1], [1]), ([2], [2]), ([3], [3]), ([4], [4]), ([], []), ([6], [6]), ([7], [7]), ([8], [8]), ([9], [9]), ([5, 10], [5, 10]), ([0, 0, 1, 2, 3, 4, 5, 6, 7, 8, 9, 10, 11], [0]), ([12, 0, 1, 2, 3, 4, 5, 6, 7, 8, 9, 10, 11], [12]), ([13, 11, 0, 1, 2, 3, 4, 5, 6, 7, 8, 9, 10, 11], [11, 13])])
def Use_B19 : List Nat := [0, 0, 2, 6, 14, 30, 0, 64, 192, 448, 960, 2046, 4095, 8191, 16383]
theorem Use_tab19 : rtab .any (opsOf Try.f11 19) = Use_T19 := by kernel_rfl
theorem Use_bits19 : waitsOk Use_T19.2 Use_B19 = true := by kernel_rfl
set_option maxHeartbeats 4000000 in
set_option maxRecDepth 100000 in
theorem Use_clock (g : Nat) (P : Nat → Prop) (most : Int) (hand : Nat) (row : List S59) (b : Int) (w0 w : World) (hB : Below w0.heap.size w0 w) (h : CS w0.heap.size P w g most row (hand : Int)) (hn : row.length < 1000) (hb : 0 ≤ b ∧ b < 96) (hix : ix row b < 0) (hroom : most ≤ (row.length : Int)) (hcan : row.any canB = true) (hh : hand < row.length) (r : (Int × Int) × List S59 × Nat) (hr : clk (2 * row.length + 1) row hand (inF b) = r) :
    Calls Try.prog 11 #[.pointer (some ⟨g, 0, none⟩), .int .i64 b] w fun e w' => e = .returned (.tuple #[.int .i64 r.1.1, .int .i64 r.1.2]) ∧ CS w0.heap.size P w' g most r.2.1 r.2.2 ∧ Below w0.heap.size w0 w' ∧ Kept w w' P := by
  have d1 : decide (b < 0) = false := by simp; omega
  have d2 : decide (96 ≤ b) = false := by simp; omega
  rcases find_cs b h hn with ⟨hm, hf⟩ | ⟨n, gr, cap, hlt, hm, -, -⟩
  rotate_left
  · exact absurd hix (by omega)
  have HB := Aside0.mk hB
  have HS := Aside0.mk h
  obtain ⟨hgB, hgP, v, hg, hR⟩ := h
  obtain ⟨A0, c0, rfl, hcap, hC⟩ := Kd.R_reads hR
  have HG := Aside0.mk hg
  have HR := Aside0.mk hR
  have HC := Aside0.mk hC
  have hnn : Aside0 (row.length < 1000) := ⟨hn⟩
  clear hg hR hC hB hn
  go_enter Try.func11, Try.ntmps11
  go_upto_region 10 with (first | (go_at_call 25; with_reducible refine (hf _ (Below.refl _ _)).mono ?_; rintro e w' ⟨rfl, hb6⟩) | ((with_reducible refine gate_dst (N := 7) rfl ?_); refine box_event ?hg (N := 7) ?hd (cs := #[.int .i64 0, .int .i64 0, .bool false, .bool false]) (t := 59) ?hr ?_; (case hd => rfl); (case hg => rfl); (case hr => first | (go_simp; done) | (go_simp; rfl)); intro gi hgi w7 hbox hb7; have z0 : w7.cell? ⟨gi, 0, none⟩ = some (.int .i64 0) := (blk_cell hbox 0).trans rfl; have z1 : w7.cell? ⟨gi, 1, none⟩ = some (.int .i64 0) := (blk_cell hbox 1).trans rfl; have z2 : w7.cell? ⟨gi, 2, none⟩ = some (.bool false) := (blk_cell hbox 2).trans rfl; have z3 : w7.cell? ⟨gi, 3, none⟩ = some (.bool false) := (blk_cell hbox 3).trans rfl; have y0 := blk_frozen hbox 0; have y1 := blk_frozen hbox 1; have y2 := blk_frozen hbox 2; have y3 := blk_frozen hbox 3; have HX := Aside0.mk hbox; have HI := Aside0.mk hgi; have HB7 := Aside0.mk hb7; have HB6 := Aside0.mk hb6; clear hbox hgi hb7 hb6))
  have hi8 : ((((w7.setCell ⟨gi, 0, none⟩ (.int .i64 b)).setCell ⟨gi, 1, none⟩ (.int .i64 0)).setCell ⟨gi, 2, none⟩ (.bool false)).setCell ⟨gi, 3, none⟩ (.bool true)).heap[gi]? = some (.cells #[.int .i64 b, .int .i64 0, .bool false, .bool true] 59 (0, 0)) := blk_put (blk_put (blk_put (blk_put HX.out 0 _ rfl) 1 _ rfl) 2 _ rfl) 3 _ rfl
  have hgi : w.heap.size ≤ gi := by have := HI.out; have := HB6.out.size; omega
  have hb8 : Below w.heap.size w ((((w7.setCell ⟨gi, 0, none⟩ (.int .i64 b)).setCell ⟨gi, 1, none⟩ (.int .i64 0)).setCell ⟨gi, 2, none⟩ (.bool false)).setCell ⟨gi, 3, none⟩ (.bool true)) := ((((below_step HB6.out HB7.out).setCell (p := ⟨gi, 0, none⟩) hgi _).setCell (p := ⟨gi, 1, none⟩) hgi _).setCell (p := ⟨gi, 2, none⟩) hgi _).setCell (p := ⟨gi, 3, none⟩) hgi _
  clear z0 z1 z2 z3 y0 y1 y2 y3
  generalize ((((w7.setCell ⟨gi, 0, none⟩ (.int .i64 b)).setCell ⟨gi, 1, none⟩ (.int .i64 0)).setCell ⟨gi, 2, none⟩ (.bool false)).setCell ⟨gi, 3, none⟩ (.bool true)) = w8 at *
  have cs8 := CS.below (HS.out.bound) (show Below w.heap.size w w8.drew from below_drew hb8)
  have hB8 : Below w0.heap.size w0 w8.drew := below_then HB.out HB.out.size (below_drew hb8)
  have d3 : decide ((row.length : Int) < most) = false := by simp; omega
  refine start_ (n := 10) (S := fun w' => w'.cell? ⟨g, 1, none⟩ = some (.slice A0 row.length c0) ∧ w'.cell? ⟨g, 0, none⟩ = some (.int .i64 most)) (ds := []) #[false, false, false, false, false, false, false, false, false, false] (by kernel_rfl) rfl rfl ⟨pw_cell_below (below_drew hb8) ((blk_cell HG.out 1).trans rfl), pw_cell_below (below_drew hb8) ((blk_cell HG.out 0).trans rfl)⟩ (fun hHeld => ?_); refine with_tabW Use_tab10 Use_bits10 (fun HT_ HW_ => ?_)
  refine pure_ (i := 0) (N := some 28) (v := ?_) (a' := ?_) #[true, false, false, false, false, false, false, false, false, false] rfl rfl (any_of HT_.out (by kernel_rfl)) (fun _ _ _ h => h) (Or.inl ⟨by rfl, ?_⟩) ?_ ?_
  rotate_left
  · intro w'
    go_simp
    with_reducible rfl
  rotate_left
  · simp only [Act.put, List.setIfInBounds_toArray, List.set_cons_zero, List.set_cons_succ, i64_w, i32_w]
    rfl
  refine pure_ (i := 1) (N := some 29) (v := ?_) (a' := ?_) #[true, true, false, false, false, false, false, false, false, false] rfl rfl (any_of HT_.out (by kernel_rfl)) (fun _ _ _ h => h) (Or.inl ⟨by rfl, ?_⟩) ?_ ?_
  rotate_left
  · intro w'
    go_simp
    with_reducible rfl
  rotate_left
  · simp only [Act.put, List.setIfInBounds_toArray, List.set_cons_zero, List.set_cons_succ, i64_w, i32_w]
    rfl
  refine pure_ (i := 2) (N := some 30) (v := ?_) (a' := ?_) #[true, true, true, false, false, false, false, false, false, false] rfl rfl (any_of HT_.out (by kernel_rfl)) (fun _ _ _ h => h) (Or.inl ⟨by rfl, ?_⟩) ?_ ?_
  rotate_left
  · intro w'
    go_simp
    with_reducible rfl
  rotate_left
  · simp only [Act.put, List.setIfInBounds_toArray, List.set_cons_zero, List.set_cons_succ, i64_w, i32_w]
    rfl
  refine take_ (i := 3) (N := some 31) (v := ?_) (a' := ?_) #[true, true, true, true, false, false, false, false, false, false] rfl rfl (take_ofW HT_.out HW_.out (by kernel_rfl)) (fun _ _ _ h => h) (Or.inl ⟨by rfl, ?_⟩) hHeld ?_ ?_
  rotate_left
  · rintro w' ⟨s0, s1⟩
    go_simp
    with_reducible rfl
  rotate_left
  · simp only [Act.put, List.setIfInBounds_toArray, List.set_cons_zero, List.set_cons_succ, i64_w, i32_w]
    rfl
  refine pure_ (i := 4) (N := some 32) (v := ?_) (a' := ?_) #[true, true, true, true, true, false, false, false, false, false] rfl rfl (any_of HT_.out (by kernel_rfl)) (fun _ _ _ h => h) (Or.inl ⟨by rfl, ?_⟩) ?_ ?_
  rotate_left
  · intro w'
    go_simp
    with_reducible rfl
  rotate_left
  · simp only [Act.put, List.setIfInBounds_toArray, List.set_cons_zero, List.set_cons_succ, i64_w, i32_w]
    rfl
  refine pure_ (i := 5) (N := some 33) (v := ?_) (a' := ?_) #[true, true, true, true, true, true, false, false, false, false] rfl rfl (any_of HT_.out (by kernel_rfl)) (fun _ _ _ h => h) (Or.inl ⟨by rfl, ?_⟩) ?_ ?_
  rotate_left
  · intro w'
    go_simp
    with_reducible rfl
  rotate_left
  · simp only [Act.put, List.setIfInBounds_toArray, List.set_cons_zero, List.set_cons_succ, i64_w, i32_w]
    rfl
  refine pure_ (i := 6) (N := some 34) (v := ?_) (a' := ?_) #[true, true, true, true, true, true, true, false, false, false] rfl rfl (any_of HT_.out (by kernel_rfl)) (fun _ _ _ h => h) (Or.inl ⟨by rfl, ?_⟩) ?_ ?_
  rotate_left
  · intro w'
    go_simp
    with_reducible rfl
  rotate_left
  · simp only [Act.put, List.setIfInBounds_toArray, List.set_cons_zero, List.set_cons_succ, i64_w, i32_w]
    rfl
  refine pure_ (i := 7) (N := some 35) (v := ?_) (a' := ?_) #[true, true, true, true, true, true, true, true, false, false] rfl rfl (any_of HT_.out (by kernel_rfl)) (fun _ _ _ h => h) (Or.inl ⟨by rfl, ?_⟩) ?_ ?_
  rotate_left
  · intro w'
    go_simp
    with_reducible rfl
  rotate_left
  · simp only [Act.put, List.setIfInBounds_toArray, List.set_cons_zero, List.set_cons_succ, i64_w, i32_w]
    rfl
  refine take_ (i := 8) (N := some 36) (v := ?_) (a' := ?_) #[true, true, true, true, true, true, true, true, true, false] rfl rfl (take_ofW HT_.out HW_.out (by kernel_rfl)) (fun _ _ _ h => h) (Or.inl ⟨by rfl, ?_⟩) hHeld ?_ ?_
  rotate_left
  · rintro w' ⟨s0, s1⟩
    go_simp
    with_reducible rfl
  rotate_left
  · simp only [Act.put, List.setIfInBounds_toArray, List.set_cons_zero, List.set_cons_succ, i64_w, i32_w]
    rfl
  refine pure_ (i := 9) (N := some 37) (v := ?_) (a' := ?_) #[true, true, true, true, true, true, true, true, true, true] rfl rfl (any_of HT_.out (by kernel_rfl)) (fun _ _ _ h => h) (Or.inl ⟨by rfl, ?_⟩) ?_ ?_
  rotate_left
  · intro w'
    go_simp
    with_reducible rfl
  rotate_left
  · simp only [Act.put, List.setIfInBounds_toArray, List.set_cons_zero, List.set_cons_succ, i64_w, i32_w]
    rfl
  refine done_ (done_of HT_.out (by kernel_rfl)) ?_
  have hi9 := blk_drew hi8
  have c1 : w8.drew.cell? ⟨g, 1, none⟩ = some (.slice A0 row.length c0) := hHeld.1
  have HC9 := Aside0.mk (Kd.C_below HC.out (show Below w.heap.size w w8.drew from below_drew hb8))
  have HCS := Aside0.mk cs8
  have HB8 := Aside0.mk hB8
  have HI8 := Aside0.mk hi9
  have Hb9 : Aside0 (Below w.heap.size w w8.drew) := ⟨below_drew hb8⟩
  clear cs8 hB8 hi9 hb8 hi8 hHeld
  generalize w8.drew = w9 at *
  have ew : wrap64 (2 * (row.length : Int)) = ((2 * row.length : Nat) : Int) := by unfold wrap64; have := hnn.out; omega
  have ew2 : wrap64 (((2 * row.length : Nat) : Int) + 1) = ((2 * row.length + 1 : Nat) : Int) := by unfold wrap64; have := hnn.out; omega
  go_upto_region 16 with (go_at_call 27; with_reducible refine (contains_calls A0 c0 row _ HC9.out (by have := hnn.out; omega)).mono ?_; rw [hcan]; rintro e w10 ⟨rfl, hb10⟩; have c10 := pw_cell_below hb10 c1; have B10 := Aside0.mk hb10; clear hb10)
  go_wp2
  simp only [show wrap64 (2 * (row.length : Int) + 1) = ((2 * row.length + 1 : Nat) : Int) by unfold wrap64; have := hnn.out; omega]
  go_loopg [63] (2 * row.length + 1) (fun kq v63 w' => ∃ (i : Nat) (row' : List S59) (h' : Nat), i + kq = 2 * row.length + 1 ∧ v63 = .int .i64 (i : Int) ∧ Aside0 (clk kq row' h' (inF b) = r) ∧ Aside0 (row'.length = row.length) ∧ Aside0 (h' < row.length) ∧ Aside0 (CS w0.heap.size (fun k => P k ∧ k < w.heap.size) w' g most row' (h' : Int)) ∧ Aside0 (Below w0.heap.size w0 w') ∧ Aside0 (Kept w w' P) ∧ Aside0 (w'.heap[gi]? = some (.cells #[.int .i64 b, .int .i64 0, .bool false, .bool true] 59 (0, 0))))
  case atStart => exact ⟨0, row, hand, by omega, rfl, ⟨hr⟩, ⟨rfl⟩, ⟨hh⟩, ⟨HCS.out.below B10.out⟩, ⟨below_then HB8.out HB8.out.size B10.out⟩, ⟨kept_below _ (below_step Hb9.out B10.out)⟩, ⟨blk_below HI8.out B10.out⟩⟩
  case round =>
    obtain ⟨i, row', h', hi, rfl, hclk, hlen, hh', hcs, hbw, hkp, hgiw⟩ := hrel
    cases gk with
    | zero =>
      obtain rfl : i = 2 * row.length + 1 := by omega
      have e0 := hclk.out
      simp only [clk] at e0
      subst e0
      go_wp2
      go_ret2
      exact ⟨rfl, hcs.out.mono (fun k hk => hk.1), hbw.out, hkp.out⟩
    | succ k1 =>
      have c63 : decide ((i : Int) < 2 * (row.length : Int) + 1) = true := by simp; omega
      have c63b : decide ((i : Int) < ((2 * row.length + 1 : Nat) : Int)) = true := by simp; omega
      have c63c : decide (i < 2 * row.length + 1) = true := by simp; omega
      obtain ⟨gr, cap, hg', hR', hne, hPg, hBg, hlg, hcap', -⟩ := cs_open hcs.out (by have := hlen.out; have := hh'.out; omega)
      have HG' := Aside0.mk hg'
      have HR' := Aside0.mk hR'
      have hl' : h' < row'.length := by have := hlen.out; have := hh'.out; omega
      have p1 : (0 ≤ (h' : Int)) = True := eq_true (by omega)
      have p2 : ((h' : Int) < (row'.length : Int)) = True := eq_true (by omega)
      have HL' := Aside0.mk hl'
      clear hg' hR' hl' ew ew2
      go_upto_region 18 with (fail)
      have hz : decide ((row'.length : Int) = 0) = false := by simp; exact List.ne_nil_of_length_pos (by have := HL'.out; omega)
      have hz2 : ¬ (row' = []) := List.ne_nil_of_length_pos (by have := HL'.out; omega)
      refine start_ (n := 10) (S := fun w' => w'.cell? ⟨g, 1, none⟩ = some (.slice (some ⟨gr, 0, none⟩) row'.length cap) ∧ w'.cell? ⟨g, 2, none⟩ = some (.int .i64 (h' : Int))) (ds := []) #[false, false, false, false, false, false, false, false, false, false] (by kernel_rfl) rfl rfl ⟨(blk_cell (blk_drew HG'.out) 1).trans rfl, (blk_cell (blk_drew HG'.out) 2).trans rfl⟩ (fun hHeld => ?_); refine with_tabW Use_tab18 Use_bits18 (fun HT_ HW_ => ?_)
      refine pure_ (i := 0) (N := some 65) (v := ?_) (a' := ?_) #[true, false, false, false, false, false, false, false, false, false] rfl rfl (any_of HT_.out (by kernel_rfl)) (fun _ _ _ h => h) (Or.inl ⟨by rfl, ?_⟩) ?_ ?_
      rotate_left
      · intro w'
        go_simp
        with_reducible rfl
      rotate_left
      · simp only [Act.put, List.setIfInBounds_toArray, List.set_cons_zero, List.set_cons_succ, i64_w, i32_w]
        rfl
      refine pure_ (i := 1) (N := some 66) (v := ?_) (a' := ?_) #[true, true, false, false, false, false, false, false, false, false] rfl rfl (any_of HT_.out (by kernel_rfl)) (fun _ _ _ h => h) (Or.inl ⟨by rfl, ?_⟩) ?_ ?_
      rotate_left
      · intro w'
        go_simp
        with_reducible rfl
      rotate_left
      · simp only [Act.put, List.setIfInBounds_toArray, List.set_cons_zero, List.set_cons_succ, i64_w, i32_w]
        rfl
      refine pure_ (i := 2) (N := some 67) (v := ?_) (a' := ?_) #[true, true, true, false, false, false, false, false, false, false] rfl rfl (any_of HT_.out (by kernel_rfl)) (fun _ _ _ h => h) (Or.inl ⟨by rfl, ?_⟩) ?_ ?_
      rotate_left
      · intro w'
        go_simp
        with_reducible rfl
      rotate_left
      · simp only [Act.put, List.setIfInBounds_toArray, List.set_cons_zero, List.set_cons_succ, i64_w, i32_w]
        rfl
      refine take_ (i := 3) (N := some 68) (v := ?_) (a' := ?_) #[true, true, true, true, false, false, false, false, false, false] rfl rfl (take_ofW HT_.out HW_.out (by kernel_rfl)) (fun _ _ _ h => h) (Or.inl ⟨by rfl, ?_⟩) hHeld ?_ ?_
      rotate_left
      · rintro w' ⟨s0, s1⟩
        go_simp
        with_reducible rfl
      rotate_left
      · simp only [Act.put, List.setIfInBounds_toArray, List.set_cons_zero, List.set_cons_succ, i64_w, i32_w]
        rfl
      refine pure_ (i := 4) (N := some 69) (v := ?_) (a' := ?_) #[true, true, true, true, true, false, false, false, false, false] rfl rfl (any_of HT_.out (by kernel_rfl)) (fun _ _ _ h => h) (Or.inl ⟨by rfl, ?_⟩) ?_ ?_
      rotate_left
      · intro w'
        go_simp
        with_reducible rfl
      rotate_left
      · simp only [Act.put, List.setIfInBounds_toArray, List.set_cons_zero, List.set_cons_succ, i64_w, i32_w]
        rfl
      refine pure_ (i := 5) (N := some 70) (v := ?_) (a' := ?_) #[true, true, true, true, true, true, false, false, false, false] rfl rfl (any_of HT_.out (by kernel_rfl)) (fun _ _ _ h => h) (Or.inl ⟨by rfl, ?_⟩) ?_ ?_
      rotate_left
      · intro w'
        go_simp
        with_reducible rfl
      rotate_left
      · simp only [Act.put, List.setIfInBounds_toArray, List.set_cons_zero, List.set_cons_succ, i64_w, i32_w]
        rfl
      refine pure_ (i := 6) (N := some 71) (v := ?_) (a' := ?_) #[true, true, true, true, true, true, true, false, false, false] rfl rfl (any_of HT_.out (by kernel_rfl)) (fun _ _ _ h => h) (Or.inl ⟨by rfl, ?_⟩) ?_ ?_
      rotate_left
      · intro w'
        go_simp
        with_reducible rfl
      rotate_left
      · simp only [Act.put, List.setIfInBounds_toArray, List.set_cons_zero, List.set_cons_succ, i64_w, i32_w]
        rfl
      refine take_ (i := 7) (N := some 72) (v := ?_) (a' := ?_) #[true, true, true, true, true, true, true, true, false, false] rfl rfl (take_ofW HT_.out HW_.out (by kernel_rfl)) (fun _ _ _ h => h) (Or.inl ⟨by rfl, ?_⟩) hHeld ?_ ?_
      rotate_left
      · rintro w' ⟨s0, s1⟩
        go_simp
        with_reducible rfl
      rotate_left
      · simp only [Act.put, List.setIfInBounds_toArray, List.set_cons_zero, List.set_cons_succ, i64_w, i32_w]
        rfl
      refine pure_ (i := 8) (N := some 73) (v := ?_) (a' := ?_) #[true, true, true, true, true, true, true, true, true, false] rfl rfl (any_of HT_.out (by kernel_rfl)) (fun _ _ _ h => h) (Or.inl ⟨by rfl, ?_⟩) ?_ ?_
      rotate_left
      · intro w'
        go_simp
        with_reducible rfl
      rotate_left
      · simp only [Act.put, List.setIfInBounds_toArray, List.set_cons_zero, List.set_cons_succ, i64_w, i32_w]
        rfl
      refine pure_ (i := 9) (N := some 8) (v := ?_) (a' := ?_) #[true, true, true, true, true, true, true, true, true, true] rfl rfl (any_of HT_.out (by kernel_rfl)) (fun _ _ _ h => h) (Or.inl ⟨by rfl, ?_⟩) ?_ ?_
      rotate_left
      · intro w'
        go_simp
        with_reducible rfl
      rotate_left
      · simp only [Act.put, List.setIfInBounds_toArray, List.set_cons_zero, List.set_cons_succ, i64_w, i32_w]
        rfl
      refine done_ (done_of HT_.out (by kernel_rfl)) ?_
      go_upto_region 19 with (fail)
      refine start_ (n := 15) (S := fun w' => w'.cell? ⟨g, 1, none⟩ = some (.slice (some ⟨gr, 0, none⟩) row'.length cap) ∧ w'.cell? ⟨g, 2, none⟩ = some (.int .i64 (h' : Int))) (ds := [14]) #[false, false, false, false, false, false, false, false, false, false, false, false, false, false, false] (by kernel_rfl) rfl rfl ⟨(blk_cell (blk_drew (blk_drew HG'.out)) 1).trans rfl, (blk_cell (blk_drew (blk_drew HG'.out)) 2).trans rfl⟩ (fun hHeld => ?_); refine with_tabW Use_tab19 Use_bits19 (fun HT_ HW_ => ?_)
      refine pure_ (i := 0) (N := some 74) (v := ?_) (a' := ?_) #[true, false, false, false, false, false, false, false, false, false, false, false, false, false, false] rfl rfl (any_of HT_.out (by kernel_rfl)) (fun _ _ _ h => h) (Or.inl ⟨by rfl, ?_⟩) ?_ ?_
      rotate_left
      · intro w'
        go_simp
        with_reducible rfl
      rotate_left
      · simp only [Act.put, List.setIfInBounds_toArray, List.set_cons_zero, List.set_cons_succ, i64_w, i32_w]
        rfl
      refine pure_ (i := 1) (N := some 75) (v := ?_) (a' := ?_) #[true, true, false, false, false, false, false, false, false, false, false, false, false, false, false] rfl rfl (any_of HT_.out (by kernel_rfl)) (fun _ _ _ h => h) (Or.inl ⟨by rfl, ?_⟩) ?_ ?_
      rotate_left
      · intro w'
        go_simp
        with_reducible rfl
      rotate_left
      · simp only [Act.put, List.setIfInBounds_toArray, List.set_cons_zero, List.set_cons_succ, i64_w, i32_w]
        rfl
      refine pure_ (i := 2) (N := some 76) (v := ?_) (a' := ?_) #[true, true, true, false, false, false, false, false, false, false, false, false, false, false, false] rfl rfl (any_of HT_.out (by kernel_rfl)) (fun _ _ _ h => h) (Or.inl ⟨by rfl, ?_⟩) ?_ ?_
      rotate_left
      · intro w'
        go_simp
        with_reducible rfl
      rotate_left
      · simp only [Act.put, List.setIfInBounds_toArray, List.set_cons_zero, List.set_cons_succ, i64_w, i32_w]
        rfl
      refine pure_ (i := 3) (N := some 77) (v := ?_) (a' := ?_) #[true, true, true, true, false, false, false, false, false, false, false, false, false, false, false] rfl rfl (any_of HT_.out (by kernel_rfl)) (fun _ _ _ h => h) (Or.inl ⟨by rfl, ?_⟩) ?_ ?_
      rotate_left
      · intro w'
        go_simp
        with_reducible rfl
      rotate_left
      · simp only [Act.put, List.setIfInBounds_toArray, List.set_cons_zero, List.set_cons_succ, i64_w, i32_w]
        rfl
      refine take_ (i := 4) (N := some 78) (v := ?_) (a' := ?_) #[true, true, true, true, true, false, false, false, false, false, false, false, false, false, false] rfl rfl (take_ofW HT_.out HW_.out (by kernel_rfl)) (fun _ _ _ h => h) (Or.inl ⟨by rfl, ?_⟩) hHeld ?_ ?_
      rotate_left
      · rintro w' ⟨s0, s1⟩
        go_simp
        with_reducible rfl
      rotate_left
      · simp only [Act.put, List.setIfInBounds_toArray, List.set_cons_zero, List.set_cons_succ, i64_w, i32_w]
        rfl
      refine pure_ (i := 5) (N := some 79) (v := ?_) (a' := ?_) #[true, true, true, true, true, true, false, false, false, false, false, false, false, false, false] rfl rfl (any_of HT_.out (by kernel_rfl)) (fun _ _ _ h => h) (Or.inl ⟨by rfl, ?_⟩) ?_ ?_
      rotate_left
      · intro w'
        go_simp
        with_reducible rfl
      rotate_left
      · simp only [Act.put, List.setIfInBounds_toArray, List.set_cons_zero, List.set_cons_succ, i64_w, i32_w]
        rfl
      refine pure_ (i := 6) (N := some 80) (v := ?_) (a' := ?_) #[true, true, true, true, true, true, true, false, false, false, false, false, false, false, false] rfl rfl (any_of HT_.out (by kernel_rfl)) (fun _ _ _ h => h) (Or.inl ⟨by rfl, ?_⟩) ?_ ?_
      rotate_left
      · intro w'
        go_simp
        with_reducible rfl
      rotate_left
      · simp only [Act.put, List.setIfInBounds_toArray, List.set_cons_zero, List.set_cons_succ, i64_w, i32_w]
        rfl
      refine pure_ (i := 7) (N := some 81) (v := ?_) (a' := ?_) #[true, true, true, true, true, true, true, true, false, false, false, false, false, false, false] rfl rfl (any_of HT_.out (by kernel_rfl)) (fun _ _ _ h => h) (Or.inl ⟨by rfl, ?_⟩) ?_ ?_
      rotate_left
      · intro w'
        go_simp
        with_reducible rfl
      rotate_left
      · simp only [Act.put, List.setIfInBounds_toArray, List.set_cons_zero, List.set_cons_succ, i64_w, i32_w]
        rfl
      refine pure_ (i := 8) (N := some 82) (v := ?_) (a' := ?_) #[true, true, true, true, true, true, true, true, true, false, false, false, false, false, false] rfl rfl (any_of HT_.out (by kernel_rfl)) (fun _ _ _ h => h) (Or.inl ⟨by rfl, ?_⟩) ?_ ?_
      rotate_left
      · intro w'
        go_simp
        with_reducible rfl
      rotate_left
      · simp only [Act.put, List.setIfInBounds_toArray, List.set_cons_zero, List.set_cons_succ, i64_w, i32_w]
        rfl
      refine take_ (i := 9) (N := some 83) (v := ?_) (a' := ?_) #[true, true, true, true, true, true, true, true, true, true, false, false, false, false, false] rfl rfl (take_ofW HT_.out HW_.out (by kernel_rfl)) (fun _ _ _ h => h) (Or.inl ⟨by rfl, ?_⟩) hHeld ?_ ?_
      rotate_left
      · rintro w' ⟨s0, s1⟩
        go_simp
        with_reducible rfl
      rotate_left
      · simp only [Act.put, List.setIfInBounds_toArray, List.set_cons_zero, List.set_cons_succ, i64_w, i32_w]
        rfl
      refine pure_ (i := 10) (N := some 84) (v := ?_) (a' := ?_) #[true, true, true, true, true, true, true, true, true, true, true, false, false, false, false] rfl rfl (any_of HT_.out (by kernel_rfl)) (fun _ _ _ h => h) (Or.inl ⟨by rfl, ?_⟩) ?_ ?_
      rotate_left
      · intro w'
        go_simp
        with_reducible rfl
      rotate_left
      · simp only [Act.put, List.setIfInBounds_toArray, List.set_cons_zero, List.set_cons_succ, i64_w, i32_w]
        rfl
      refine pure_ (i := 11) (N := some 85) (v := ?_) (a' := ?_) #[true, true, true, true, true, true, true, true, true, true, true, true, false, false, false] rfl rfl (any_of HT_.out (by kernel_rfl)) (fun _ _ _ h => h) (Or.inl ⟨by rfl, ?_⟩) ?_ ?_
      rotate_left
      · intro w'
        go_simp
        with_reducible rfl
      rotate_left
      · simp only [Act.put, List.setIfInBounds_toArray, List.set_cons_zero, List.set_cons_succ, i64_w, i32_w]
        rfl
      refine pure_ (i := 12) (N := some 86) (v := ?_) (a' := ?_) #[true, true, true, true, true, true, true, true, true, true, true, true, true, false, false] rfl rfl (any_of HT_.out (by kernel_rfl)) (fun _ _ _ h => h) (Or.inl ⟨by rfl, ?_⟩) ?_ ?_
      rotate_left
      · intro w'
        go_simp
        with_reducible rfl
      rotate_left
      · simp only [Act.put, List.setIfInBounds_toArray, List.set_cons_zero, List.set_cons_succ, i64_w, i32_w]
        rfl
      refine pure_ (i := 13) (N := some 87) (v := ?_) (a' := ?_) #[true, true, true, true, true, true, true, true, true, true, true, true, true, true, false] rfl rfl (any_of HT_.out (by kernel_rfl)) (fun _ _ _ h => h) (Or.inl ⟨by rfl, ?_⟩) ?_ ?_
      rotate_left
      · intro w'
        go_simp
        with_reducible rfl
      rotate_left
      · simp only [Act.put, List.setIfInBounds_toArray, List.set_cons_zero, List.set_cons_succ, i64_w, i32_w]
        rfl
      refine last_ (i := 14) (N := none) #[true, true, true, true, true, true, true, true, true, true, true, true, true, true, true] rfl rfl (one_of HT_.out (by kernel_rfl)) (by decide) (fun K hK => ?_)
      have hs8 := hHeld.2
      have hf8 := blk_frozen (blk_drew (blk_drew HG'.out)) 2
      refine skip_ (w1 := ?_) (by rfl) rfl ?_ ?_
      rotate_left
      · go_simp
        rfl
      refine hK.out _ _ ?_
      clear hK K
      refine done_ (done_of HT_.out (by kernel_rfl)) ?_
      have hNX : (wrap64 ((h' : Int) + 1)).tmod (row'.length : Int) = (((h' + 1) % row'.length : Nat) : Int) := by
        rw [show wrap64 ((h' : Int) + 1) = (h' : Int) + 1 by unfold wrap64; have := hnn.out; have := hlen.out; have := HL'.out; omega, Int.tmod_eq_emod_of_nonneg (by omega)]
        simp
      simp only [hNX]
      clear hNX hHeld
      obtain ⟨hn, hhn⟩ : ∃ hn, (h' + 1) % row'.length = hn := ⟨_, rfl⟩
      simp only [hhn]
      have HHN := Aside0.mk hhn
      clear hhn
      have hgg : gi ≠ g := by
        intro e
        have h1 := blk_lt HG.out
        have h2 := HI.out
        have h3 := HB6.out.size
        omega
      have hga := blk_drew (blk_drew (blk_put HG'.out 2 (.int .i64 (hn : Int)) rfl))
      have hRa := Kd.R_drew (Kd.R_drew (Kd.R_set HR'.out HG'.out (by simp [show k59.E = [] from rfl]) 2 (.int .i64 (hn : Int))))
      have hia : (wr.setCell ⟨g, 2, none⟩ (.int .i64 (hn : Int))).drew.drew.heap[gi]? = some (.cells #[.int .i64 b, .int .i64 0, .bool false, .bool true] 59 (0, 0)) := blk_drew (blk_drew ((Below.heap_setCell _ _ _ gi hgg).trans hgiw.out))
      have hba : Below w0.heap.size w0 (wr.setCell ⟨g, 2, none⟩ (.int .i64 (hn : Int))).drew.drew := below_drew (below_drew (hbw.out.setCell (p := ⟨g, 2, none⟩) hgB _))
      have hka : Kept w (wr.setCell ⟨g, 2, none⟩ (.int .i64 (hn : Int))).drew.drew P := ⟨by show w.heap.size ≤ (wr.setCell _ _).heap.size; rw [World.size_setCell]; exact hkp.out.1, fun k hk hS => (Below.heap_setCell _ _ _ k (fun e => hS (e ▸ hgP))).trans (hkp.out.2 k hk hS)⟩
      have HGa := Aside0.mk hga
      have HRa := Aside0.mk hRa
      have HIa := Aside0.mk hia
      have HBa := Aside0.mk hba
      have HKa := Aside0.mk hka
      clear hga hRa hia hba hka hcs hbw hkp hgiw HG' HR'
      generalize (wr.setCell ⟨g, 2, none⟩ (.int .i64 (hn : Int))).drew.drew = wa at *
      obtain ⟨q0, q1, q2, q3⟩ := (row_cells HRa.out h' HL'.out).1
      have e0 := hclk.out
      have er : row'.getD h' z59 = row'[h']'(HL'.out) := getD_at _ _ HL'.out
      simp only [clk, er, HHN.out] at e0
      clear er
      have hfz : ∀ wb, Below wa.heap.size wa wb → ∀ j, wb.frozen? ⟨gr, h' * 4 + j, none⟩ = false := fun wb hb => (row_cells (Kd.R_below HRa.out hb) h' HL'.out).2
      have hzz : ∀ wb, Below wa.heap.size wa wb → wb.cell? ⟨gi, 0, none⟩ = some (.int .i64 b) ∧ wb.cell? ⟨gi, 1, none⟩ = some (.int .i64 0) ∧ wb.cell? ⟨gi, 2, none⟩ = some (.bool false) ∧ wb.cell? ⟨gi, 3, none⟩ = some (.bool true) := fun wb hb => ⟨(blk_cell (blk_below HIa.out hb) 0).trans rfl, (blk_cell (blk_below HIa.out hb) 1).trans rfl, (blk_cell (blk_below HIa.out hb) 2).trans rfl, (blk_cell (blk_below HIa.out hb) 3).trans rfl⟩
      have HFZ0 : Aside0 (∀ wb, Below wa.heap.size wa wb → wb.frozen? ⟨gr, h' * 4, none⟩ = false) := ⟨fun wb hb => hfz wb hb 0⟩
      have HFZ := Aside0.mk hfz
      have HZZ := Aside0.mk hzz
      have HE0 := Aside0.mk e0
      clear hfz hzz e0
      obtain ⟨x, hx⟩ : ∃ x, row'[h']'(HL'.out) = x := ⟨_, rfl⟩
      have HX0 := Aside0.mk hx
      rw [hx] at q0 q1 q2 q3 HE0
      clear hx
      have put_ : ∀ wb j u x', Below wa.heap.size wa wb → j < 4 → [.int .i64 x'.f0, .int .i64 x'.f1, .bool x'.f2, .bool x'.f3] = ([.int .i64 x.f0, .int .i64 x.f1, .bool x.f2, .bool x.f3] : List Value).take j ++ [u] ++ ([.int .i64 x.f0, .int .i64 x.f1, .bool x.f2, .bool x.f3] : List Value).drop (j + 1) →
          CS w0.heap.size (fun k => P k ∧ k < w.heap.size) (wb.setCell ⟨gr, h' * 4 + j, none⟩ u) g most (row'.set h' x') (hn : Int) ∧ Below w0.heap.size w0 (wb.setCell ⟨gr, h' * 4 + j, none⟩ u) ∧ Kept w (wb.setCell ⟨gr, h' * 4 + j, none⟩ u) P ∧ (wb.setCell ⟨gr, h' * 4 + j, none⟩ u).heap[gi]? = some (.cells #[.int .i64 b, .int .i64 0, .bool false, .bool true] 59 (0, 0)) := fun wb j u x' hb hj hx => by
        have hb' : gi ≠ gr := by
          intro e
          have h1 := hPg.2
          have h2 := HI.out
          have h3 := HB6.out.size
          omega
        obtain ⟨r1, r2⟩ := row_put (Kd.R_below HRa.out hb) h' j HL'.out hj u x' (by rw [HX0.out]; exact hx)
        obtain ⟨s1, s2⟩ := CS.put hgB ⟨hgP, blk_lt HG.out⟩ hPg hne (List.length_set ..) (blk_below HGa.out hb) r1 r2
        exact ⟨s1, below_grown (below_then HBa.out HBa.out.size hb) r2 hBg (Nat.le_trans HBa.out.size hb.size), ⟨Nat.le_trans (Nat.le_trans HKa.out.1 hb.size) r2.size, fun k hk hS => (r2.block k (Nat.lt_of_lt_of_le hk (Nat.le_trans HKa.out.1 hb.size)) (fun e => hS (by injection e with e; rw [e]; exact hPg.1))).trans ((hb.block k (Nat.lt_of_lt_of_le hk HKa.out.1)).trans (HKa.out.2 k hk hS))⟩, (Below.heap_setCell _ _ _ gi hb').trans (blk_below HIa.out hb)⟩
      have PUT := Aside0.mk put_
      clear put_
      have next_ : (canB x = true ∧ x.f3 = false → False) → clk k1 (row'.set h' ⟨x.f0, x.f1, x.f2, false⟩) hn (inF b) = r := fun hno => by
        have := HE0.out
        rw [if_neg hno] at this
        exact this
      have NEXT := Aside0.mk next_
      clear next_
      cases hcx : canB x with
      | false =>
        go_wp2_with (go_at_call 28; with_reducible refine (can_calls x _).mono ?_; rw [hcx]; rintro e wb ⟨rfl, hbb⟩; have r3 := pw_cell_below hbb q3; have t3 := HFZ.out wb hbb 3; have HBB := Aside0.mk hbb; clear hbb)
        go_roundg k1
        case rel =>
          obtain ⟨s1, s2, s3, s4⟩ := PUT.out _ 3 (.bool false) ⟨x.f0, x.f1, x.f2, false⟩ HBB.out (by omega) rfl
          exact ⟨i + 1, row'.set h' ⟨x.f0, x.f1, x.f2, false⟩, hn, by omega, by first | rfl | (rw [show wrap64 ((i : Int) + 1) = ((i + 1 : Nat) : Int) by unfold wrap64; have := hnn.out; omega]), ⟨NEXT.out (by intro h; exact absurd h.1 (by rw [hcx]; decide))⟩, ⟨by rw [List.length_set]; exact hlen.out⟩, ⟨by rw [← HHN.out, hlen.out]; exact Nat.mod_lt _ (by omega)⟩, ⟨s1⟩, ⟨s2⟩, ⟨s3⟩, ⟨s4⟩⟩
        all_goals omega
      | true =>
        cases hf3 : x.f3 with
        | true =>
          have HF3 := Aside0.mk hf3
          clear hf3
          go_wp2_with (go_at_call 28; with_reducible refine (can_calls x _).mono ?_; rw [hcx]; rintro e wb ⟨rfl, hbb⟩; have r3 := pw_cell_below hbb q3; rw [HF3.out] at r3; have t3 := HFZ.out wb hbb 3; have HBB := Aside0.mk hbb; clear hbb)
          go_roundg k1
          case rel =>
            obtain ⟨s1, s2, s3, s4⟩ := PUT.out _ 3 (.bool false) ⟨x.f0, x.f1, x.f2, false⟩ HBB.out (by omega) rfl
            exact ⟨i + 1, row'.set h' ⟨x.f0, x.f1, x.f2, false⟩, hn, by omega, by first | rfl | (rw [show wrap64 ((i : Int) + 1) = ((i + 1 : Nat) : Int) by unfold wrap64; have := hnn.out; omega]), ⟨NEXT.out (by intro h; exact absurd h.2 (by rw [HF3.out]; decide))⟩, ⟨by rw [List.length_set]; exact hlen.out⟩, ⟨by rw [← HHN.out, hlen.out]; exact Nat.mod_lt _ (by omega)⟩, ⟨s1⟩, ⟨s2⟩, ⟨s3⟩, ⟨s4⟩⟩
          all_goals omega
        | false =>
          have HF3 := Aside0.mk hf3
          clear hf3
          go_wp2_with (go_at_call 28; with_reducible refine (can_calls x _).mono ?_; rw [hcx]; rintro e wb ⟨rfl, hbb⟩; have r0 := pw_cell_below hbb q0; have r1 := pw_cell_below hbb q1; have r2 := pw_cell_below hbb q2; have r3 := pw_cell_below hbb q3; rw [HF3.out] at r3; have t0 := HFZ0.out wb hbb; have t1 := HFZ.out wb hbb 1; have t2 := HFZ.out wb hbb 2; have t3 := HFZ.out wb hbb 3; obtain ⟨y0, y1, y2, y3⟩ := HZZ.out wb hbb; have HBB := Aside0.mk hbb; clear hbb)
          go_ret2
          have e1 := HE0.out
          rw [if_pos ⟨hcx, HF3.out⟩] at e1
          subst e1
          obtain ⟨r1, r2⟩ := row_put4 (Kd.R_below HRa.out HBB.out) h' HL'.out (inF b)
          obtain ⟨s1, s2⟩ := CS.put hgB ⟨hgP, blk_lt HG.out⟩ hPg hne (List.length_set ..) (blk_below HGa.out HBB.out) r1 r2
          exact ⟨rfl, s1.mono (fun k hk => hk.1), below_grown (below_then HBa.out HBa.out.size HBB.out) r2 hBg (Nat.le_trans HBa.out.size HBB.out.size), Nat.le_trans (Nat.le_trans HKa.out.1 HBB.out.size) r2.size, fun k hk hS => (r2.block k (Nat.lt_of_lt_of_le hk (Nat.le_trans HKa.out.1 HBB.out.size)) (fun e => hS (by injection e with e; rw [e]; exact hPg.1))).trans ((HBB.out.block k (Nat.lt_of_lt_of_le hk HKa.out.1)).trans (HKa.out.2 k hk hS))⟩
end Go.Proofs.Ytlmnagbfmkaglaa.CC
