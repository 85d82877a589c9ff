import Derived.Test.YtlmnagbfmkaglaaC4
import Derived.Test.YtlmnagbfmkaglaaC5
import Derived.BigQuiet
/-! Contracts of the package cache: Use. -/
namespace Go.Proofs.Ytlmnagbfmkaglaa.CC
open Go.RowKit Go.Proofs.Ytlmnagbfmkaglaa.PG Go.Proofs.YtlmnagbfmkaglaaW.PrintWords Go.Proofs.YtlmnagbfmkaglaaW.PrintLast Go.Proofs.YtlmnagbfmkaglaaW.PrintMore
attribute [local go_sem] Oper.semAt_some
def inF (b : Int) : S59 := ⟨b, 0, false, true⟩
def clk : Nat → List S59 → Nat → S59 → (Int × Int) × List S59 × Nat
  | 0, row, h, _ => ((-1, 11), row, h)
  | k + 1, row, h, y => if canB (row.getD h z59) = true ∧ (row.getD h z59).f3 = false then (((row.getD h z59).f0, 0), row.set h y, (h + 1) % row.length) else clk k (row.set h ⟨(row.getD h z59).f0, (row.getD h z59).f1, (row.getD h z59).f2, false⟩) ((h + 1) % row.length) y
def useC (most : Int) (row : List S59) (h : Nat) (b : Int) : (Int × Int) × List S59 × Nat :=
  if b < 0 ∨ 96 ≤ b then ((-1, 2), row, h)
  else if 0 ≤ ix row b then ((-1, 0), row.set (ix row b).toNat ⟨(row.getD (ix row b).toNat z59).f0, (row.getD (ix row b).toNat z59).f1, (row.getD (ix row b).toNat z59).f2, true⟩, h)
  else if (row.length : Int) < most then ((-1, 0), rot row h ++ [inF b], 0)
  else if row.any canB = false then ((-1, 11), row, h)
  else clk (2 * row.length + 1) row h (inF b)
theorem CS.bound {B : Nat} {P : Nat → Prop} {w : World} {g : Nat} {most hand : Int} {row : List S59} (h : CS B P w g most row hand) : CS B (fun k => P k ∧ k < w.heap.size) w g most row hand := by
  obtain ⟨h1, h2, v, h3, h4⟩ := h
  exact ⟨h1, ⟨h2, blk_lt h3⟩, v, h3, Kd.R_mono (Kd.R_bound h4) (fun k hk => ⟨hk.1, hk.2.2.1⟩)⟩
theorem Use_nil (b : Int) (w : World) : Calls Try.prog 11 #[.pointer none, .int .i64 b] w fun e w' => e = .returned (.tuple #[.int .i64 (-1), .int .i64 1]) ∧ Below w.heap.size w w' := by
  go_enter Try.func11, Try.ntmps11
  go_wp2
  go_ret2
  exact ⟨rfl, Below.refl _ _⟩
theorem Use_range (g : Nat) (b : Int) (hb : b < 0 ∨ 96 ≤ b) (w : World) : Calls Try.prog 11 #[.pointer (some ⟨g, 0, none⟩), .int .i64 b] w fun e w' => e = .returned (.tuple #[.int .i64 (-1), .int .i64 2]) ∧ Below w.heap.size w w' := by
  by_cases h : b < 0
  · have d1 : decide (b < 0) = true := by simpa using h
    go_enter Try.func11, Try.ntmps11
    go_wp2
    go_ret2
    exact ⟨rfl, Below.refl _ _⟩
  · have d1 : decide (b < 0) = false := by simpa using h
    have d2 : decide (96 ≤ b) = true := by simp; omega
    go_enter Try.func11, Try.ntmps11
    go_wp2
    go_ret2
    exact ⟨rfl, Below.refl _ _⟩
theorem Use_hit (g : Nat) (P : Nat → Prop) (most hand : Int) (row : List S59) (b : Int) (w0 w : World) (hB : Below w0.heap.size w0 w) (h : CS w0.heap.size P w g most row hand) (hn : row.length < 1000) (hb : 0 ≤ b ∧ b < 96) (hix : 0 ≤ ix row b) :
    Calls Try.prog 11 #[.pointer (some ⟨g, 0, none⟩), .int .i64 b] w fun e w' => e = .returned (.tuple #[.int .i64 (-1), .int .i64 0]) ∧ CS w0.heap.size P w' g most (row.set (ix row b).toNat ⟨(row.getD (ix row b).toNat z59).f0, (row.getD (ix row b).toNat z59).f1, (row.getD (ix row b).toNat z59).f2, true⟩) hand ∧ Below w0.heap.size w0 w' ∧ Kept w w' P := by
  have HB := Aside0.mk hB
  have HS := Aside0.mk h
  have d1 : decide (b < 0) = false := by simp; omega
  have d2 : decide (96 ≤ b) = false := by simp; omega
  rcases find_cs b h hn with ⟨hm, hf⟩ | ⟨n, gr, cap, hlt, hm, -, hg, hR, hne, hP, hb0, hl, hf⟩
  · exact absurd hix (by omega)
  · rw [hm, Int.toNat_natCast, getD_at _ _ hlt]
    have q3 := (row_cells hR n hlt).1.2.2.2
    have HR := Aside0.mk hR
    have HG := Aside0.mk hg
    clear hR hg h hB hix
    go_enter Try.func11, Try.ntmps11
    go_wp2_with (go_at_call 25; with_reducible refine (hf _ (Below.refl _ _)).mono ?_; rintro e w' ⟨rfl, hb⟩; have q4 := pw_cell_below hb q3; have f4 := (row_cells (Kd.R_below HR.out hb) n hlt).2 3; have HB6 := Aside0.mk hb)
    go_ret2
    rename_i w6 _ _
    obtain ⟨r1, r2⟩ := row_put (Kd.R_below HR.out HB6.out) n 3 hlt (by omega) (.bool true) ⟨row[n].f0, row[n].f1, row[n].f2, true⟩ rfl
    obtain ⟨s1, s2⟩ := CS.put HS.out.base HS.out.mine hP hne (List.length_set ..) (blk_below HG.out HB6.out) r1 r2
    exact ⟨rfl, s1, below_grown (below_then HB.out HB.out.size HB6.out) r2 hb0 (Nat.le_trans HB.out.size HB6.out.size), Nat.le_trans HB6.out.size r2.size, fun k hk hS => (r2.block k (Nat.lt_of_lt_of_le hk HB6.out.size) (fun e => hS (by injection e with e; rw [e]; exact hP))).trans (HB6.out.block k hk)⟩

def Use_T10 : Bool × List (List Nat × List Nat) := (true, [([], []), ([0], [0]), ([1], [1]), ([2], [2]), ([3], [3]), ([], []), ([5], [5]), ([6], [6]), ([7], [7]), ([4, 8], [4, 8])])
def Use_B10 : List Nat := [0, 1, 3, 7, 15, 0, 32, 96, 224, 511]
theorem Use_tab10 : rtab .any (opsOf Try.f11 10) = Use_T10 := by kernel_rfl
theorem Use_bits10 : waitsOk Use_T10.2 Use_B10 = true := by kernel_rfl
def Use_T12 : Bool × List (List Nat × List Nat) := (true, [([], []), ([], []), ([1], [1]), ([2], [2]), ([3], [3]), ([], []), ([5], [5]), ([4, 6], [4, 6]), ([0, 0, 1, 2, 3, 4, 5, 6, 7], [0]), ([8, 0, 1, 2, 3, 4, 5, 6, 7], [8]), ([9, 7, 7, 0, 1, 2, 3, 4, 5, 6, 7], [7, 9])])
def Use_B12 : List Nat := [0, 0, 2, 6, 14, 0, 32, 126, 255, 511, 1023]
theorem Use_tab12 : rtab .any (opsOf Try.f11 12) = Use_T12 := by kernel_rfl
theorem Use_bits12 : waitsOk Use_T12.2 Use_B12 = true := by kernel_rfl
set_option maxHeartbeats 4000000 in
set_option maxRecDepth 100000 in
theorem Use_room (g : Nat) (P : Nat → Prop) (most : Int) (hand : Nat) (row : List S59) (b : Int) (w0 w : World) (hB : Below w0.heap.size w0 w) (h : CS w0.heap.size P w g most row (hand : Int)) (hn : row.length < 1000) (hb : 0 ≤ b ∧ b < 96) (hix : ix row b < 0) (hroom : (row.length : Int) < most) (hh : hand ≤ row.length) :
    Calls Try.prog 11 #[.pointer (some ⟨g, 0, none⟩), .int .i64 b] w fun e w' => e = .returned (.tuple #[.int .i64 (-1), .int .i64 0]) ∧ CS w0.heap.size (fun k => P k ∨ w.heap.size ≤ k) w' g most (rot row hand ++ [inF b]) 0 ∧ Below w0.heap.size w0 w' ∧ Kept w w' P := by
  have d1 : decide (b < 0) = false := by simp; omega
  have d2 : decide (96 ≤ b) = false := by simp; omega
  rcases find_cs b h hn with ⟨hm, hf⟩ | ⟨n, gr, cap, hlt, hm, -, -⟩
  rotate_left
  · exact absurd hix (by omega)
  have HB := Aside0.mk hB
  have HS := Aside0.mk h
  obtain ⟨hgB, hgP, v, hg, hR⟩ := h
  obtain ⟨A0, c0, rfl, hcap, hC⟩ := Kd.R_reads hR
  have HG := Aside0.mk hg
  have HR := Aside0.mk hR
  have HC := Aside0.mk hC
  have hnn : Aside0 (row.length < 1000) := ⟨hn⟩
  clear hg hR hC hB hn
  go_enter Try.func11, Try.ntmps11
  go_upto_region 10 with (first | (go_at_call 25; with_reducible refine (hf _ (Below.refl _ _)).mono ?_; rintro e w' ⟨rfl, hb6⟩) | ((with_reducible refine gate_dst (N := 7) rfl ?_); refine box_event ?hg (N := 7) ?hd (cs := #[.int .i64 0, .int .i64 0, .bool false, .bool false]) (t := 59) ?hr ?_; (case hd => rfl); (case hg => rfl); (case hr => first | (go_simp; done) | (go_simp; rfl)); intro gi hgi w7 hbox hb7; have z0 : w7.cell? ⟨gi, 0, none⟩ = some (.int .i64 0) := (blk_cell hbox 0).trans rfl; have z1 : w7.cell? ⟨gi, 1, none⟩ = some (.int .i64 0) := (blk_cell hbox 1).trans rfl; have z2 : w7.cell? ⟨gi, 2, none⟩ = some (.bool false) := (blk_cell hbox 2).trans rfl; have z3 : w7.cell? ⟨gi, 3, none⟩ = some (.bool false) := (blk_cell hbox 3).trans rfl; have y0 := blk_frozen hbox 0; have y1 := blk_frozen hbox 1; have y2 := blk_frozen hbox 2; have y3 := blk_frozen hbox 3; have HX := Aside0.mk hbox; have HI := Aside0.mk hgi; have HB7 := Aside0.mk hb7; have HB6 := Aside0.mk hb6; clear hbox hgi hb7 hb6))
  have hi8 : ((((w7.setCell ⟨gi, 0, none⟩ (.int .i64 b)).setCell ⟨gi, 1, none⟩ (.int .i64 0)).setCell ⟨gi, 2, none⟩ (.bool false)).setCell ⟨gi, 3, none⟩ (.bool true)).heap[gi]? = some (.cells #[.int .i64 b, .int .i64 0, .bool false, .bool true] 59 (0, 0)) := blk_put (blk_put (blk_put (blk_put HX.out 0 _ rfl) 1 _ rfl) 2 _ rfl) 3 _ rfl
  have hgi : w.heap.size ≤ gi := by have := HI.out; have := HB6.out.size; omega
  have hb8 : Below w.heap.size w ((((w7.setCell ⟨gi, 0, none⟩ (.int .i64 b)).setCell ⟨gi, 1, none⟩ (.int .i64 0)).setCell ⟨gi, 2, none⟩ (.bool false)).setCell ⟨gi, 3, none⟩ (.bool true)) := ((((below_step HB6.out HB7.out).setCell (p := ⟨gi, 0, none⟩) hgi _).setCell (p := ⟨gi, 1, none⟩) hgi _).setCell (p := ⟨gi, 2, none⟩) hgi _).setCell (p := ⟨gi, 3, none⟩) hgi _
  clear z0 z1 z2 z3 y0 y1 y2 y3
  generalize ((((w7.setCell ⟨gi, 0, none⟩ (.int .i64 b)).setCell ⟨gi, 1, none⟩ (.int .i64 0)).setCell ⟨gi, 2, none⟩ (.bool false)).setCell ⟨gi, 3, none⟩ (.bool true)) = w8 at *
  have cs8 := CS.below (HS.out.bound) (show Below w.heap.size w w8.drew from below_drew hb8)
  have hB8 : Below w0.heap.size w0 w8.drew := below_then HB.out HB.out.size (below_drew hb8)
  have d3 : decide ((row.length : Int) < most) = true := by simpa using hroom
  refine start_ (n := 10) (S := fun w' => w'.cell? ⟨g, 1, none⟩ = some (.slice A0 row.length c0) ∧ w'.cell? ⟨g, 0, none⟩ = some (.int .i64 most)) (ds := []) #[false, false, false, false, false, false, false, false, false, false] (by kernel_rfl) rfl rfl ⟨pw_cell_below (below_drew hb8) ((blk_cell HG.out 1).trans rfl), pw_cell_below (below_drew hb8) ((blk_cell HG.out 0).trans rfl)⟩ (fun hHeld => ?_); refine with_tabW Use_tab10 Use_bits10 (fun HT_ HW_ => ?_)
  refine pure_ (i := 0) (N := some 28) (v := ?_) (a' := ?_) #[true, false, false, false, false, false, false, false, false, false] rfl rfl (any_of HT_.out (by kernel_rfl)) (fun _ _ _ h => h) (Or.inl ⟨by rfl, ?_⟩) ?_ ?_
  rotate_left
  · intro w'
    go_simp
    with_reducible rfl
  rotate_left
  · simp only [Act.put, List.setIfInBounds_toArray, List.set_cons_zero, List.set_cons_succ, i64_w, i32_w]
    rfl
  refine pure_ (i := 1) (N := some 29) (v := ?_) (a' := ?_) #[true, true, false, false, false, false, false, false, false, false] rfl rfl (any_of HT_.out (by kernel_rfl)) (fun _ _ _ h => h) (Or.inl ⟨by rfl, ?_⟩) ?_ ?_
  rotate_left
  · intro w'
    go_simp
    with_reducible rfl
  rotate_left
  · simp only [Act.put, List.setIfInBounds_toArray, List.set_cons_zero, List.set_cons_succ, i64_w, i32_w]
    rfl
  refine pure_ (i := 2) (N := some 30) (v := ?_) (a' := ?_) #[true, true, true, false, false, false, false, false, false, false] rfl rfl (any_of HT_.out (by kernel_rfl)) (fun _ _ _ h => h) (Or.inl ⟨by rfl, ?_⟩) ?_ ?_
  rotate_left
  · intro w'
    go_simp
    with_reducible rfl
  rotate_left
  · simp only [Act.put, List.setIfInBounds_toArray, List.set_cons_zero, List.set_cons_succ, i64_w, i32_w]
    rfl
  refine take_ (i := 3) (N := some 31) (v := ?_) (a' := ?_) #[true, true, true, true, false, false, false, false, false, false] rfl rfl (take_ofW HT_.out HW_.out (by kernel_rfl)) (fun _ _ _ h => h) (Or.inl ⟨by rfl, ?_⟩) hHeld ?_ ?_
  rotate_left
  · rintro w' ⟨s0, s1⟩
    go_simp
    with_reducible rfl
  rotate_left
  · simp only [Act.put, List.setIfInBounds_toArray, List.set_cons_zero, List.set_cons_succ, i64_w, i32_w]
    rfl
  refine pure_ (i := 4) (N := some 32) (v := ?_) (a' := ?_) #[true, true, true, true, true, false, false, false, false, false] rfl rfl (any_of HT_.out (by kernel_rfl)) (fun _ _ _ h => h) (Or.inl ⟨by rfl, ?_⟩) ?_ ?_
  rotate_left
  · intro w'
    go_simp
    with_reducible rfl
  rotate_left
  · simp only [Act.put, List.setIfInBounds_toArray, List.set_cons_zero, List.set_cons_succ, i64_w, i32_w]
    rfl
  refine pure_ (i := 5) (N := some 33) (v := ?_) (a' := ?_) #[true, true, true, true, true, true, false, false, false, false] rfl rfl (any_of HT_.out (by kernel_rfl)) (fun _ _ _ h => h) (Or.inl ⟨by rfl, ?_⟩) ?_ ?_
  rotate_left
  · intro w'
    go_simp
    with_reducible rfl
  rotate_left
  · simp only [Act.put, List.setIfInBounds_toArray, List.set_cons_zero, List.set_cons_succ, i64_w, i32_w]
    rfl
  refine pure_ (i := 6) (N := some 34) (v := ?_) (a' := ?_) #[true, true, true, true, true, true, true, false, false, false] rfl rfl (any_of HT_.out (by kernel_rfl)) (fun _ _ _ h => h) (Or.inl ⟨by rfl, ?_⟩) ?_ ?_
  rotate_left
  · intro w'
    go_simp
    with_reducible rfl
  rotate_left
  · simp only [Act.put, List.setIfInBounds_toArray, List.set_cons_zero, List.set_cons_succ, i64_w, i32_w]
    rfl
  refine pure_ (i := 7) (N := some 35) (v := ?_) (a' := ?_) #[true, true, true, true, true, true, true, true, false, false] rfl rfl (any_of HT_.out (by kernel_rfl)) (fun _ _ _ h => h) (Or.inl ⟨by rfl, ?_⟩) ?_ ?_
  rotate_left
  · intro w'
    go_simp
    with_reducible rfl
  rotate_left
  · simp only [Act.put, List.setIfInBounds_toArray, List.set_cons_zero, List.set_cons_succ, i64_w, i32_w]
    rfl
  refine take_ (i := 8) (N := some 36) (v := ?_) (a' := ?_) #[true, true, true, true, true, true, true, true, true, false] rfl rfl (take_ofW HT_.out HW_.out (by kernel_rfl)) (fun _ _ _ h => h) (Or.inl ⟨by rfl, ?_⟩) hHeld ?_ ?_
  rotate_left
  · rintro w' ⟨s0, s1⟩
    go_simp
    with_reducible rfl
  rotate_left
  · simp only [Act.put, List.setIfInBounds_toArray, List.set_cons_zero, List.set_cons_succ, i64_w, i32_w]
    rfl
  refine pure_ (i := 9) (N := some 37) (v := ?_) (a' := ?_) #[true, true, true, true, true, true, true, true, true, true] rfl rfl (any_of HT_.out (by kernel_rfl)) (fun _ _ _ h => h) (Or.inl ⟨by rfl, ?_⟩) ?_ ?_
  rotate_left
  · intro w'
    go_simp
    with_reducible rfl
  rotate_left
  · simp only [Act.put, List.setIfInBounds_toArray, List.set_cons_zero, List.set_cons_succ, i64_w, i32_w]
    rfl
  refine done_ (done_of HT_.out (by kernel_rfl)) ?_
  have hi9 := blk_drew hi8
  have HCS := Aside0.mk cs8
  have HB8 := Aside0.mk hB8
  have HI8 := Aside0.mk hi9
  have Hb9 : Aside0 (Below w.heap.size w w8.drew) := ⟨below_drew hb8⟩
  clear cs8 hB8 hi9 hb8 hi8 hHeld
  generalize w8.drew = w9 at *
  go_upto_region 12 with (go_at_call 26; with_reducible refine (straight_calls g _ most hand row w0 _ HB8.out HCS.out hh hnn.out).mono ?_; rintro e w10 ⟨rfl, hcs, hb, hk⟩; have CS2 := Aside0.mk hcs; have B2 := Aside0.mk hb; have K2 := Aside0.mk hk; clear hcs hb hk)
  have hgi9 := blk_lt HI8.out
  have hi10 : w10.heap[gi]? = some (.cells #[.int .i64 b, .int .i64 0, .bool false, .bool true] 59 (0, 0)) := (K2.out.2 gi hgi9 (fun h => absurd h.2 (by omega))).trans HI8.out
  obtain ⟨-, -, v10, hg10, hR10⟩ := CS2.out
  obtain ⟨A9, c9, rfl, -, -⟩ := Kd.R_reads hR10
  have HG10 := Aside0.mk hg10
  have HR10 := Aside0.mk hR10
  have HI10 := Aside0.mk hi10
  clear hg10 hR10 hi10
  refine start_ (n := 11) (S := fun w' => w'.cell? ⟨g, 1, none⟩ = some (.slice A9 (rot row hand).length c9) ∧ w'.cell? ⟨gi, 0, none⟩ = some (.int .i64 b) ∧ w'.cell? ⟨gi, 1, none⟩ = some (.int .i64 0) ∧ w'.cell? ⟨gi, 2, none⟩ = some (.bool false) ∧ w'.cell? ⟨gi, 3, none⟩ = some (.bool true)) (ds := [7, 10]) #[false, false, false, false, false, false, false, false, false, false, false] (by kernel_rfl) rfl rfl ⟨(blk_cell (blk_drew HG10.out) 1).trans rfl, (blk_cell (blk_drew HI10.out) 0).trans rfl, (blk_cell (blk_drew HI10.out) 1).trans rfl, (blk_cell (blk_drew HI10.out) 2).trans rfl, (blk_cell (blk_drew HI10.out) 3).trans rfl⟩ (fun hHeld => ?_); refine with_tabW Use_tab12 Use_bits12 (fun HT_ HW_ => ?_)
  refine pure_ (i := 0) (N := some 40) (v := ?_) (a' := ?_) #[true, false, false, false, false, false, false, false, false, false, false] rfl rfl (any_of HT_.out (by kernel_rfl)) (fun _ _ _ h => h) (Or.inl ⟨by rfl, ?_⟩) ?_ ?_
  rotate_left
  · intro w'
    go_simp
    with_reducible rfl
  rotate_left
  · simp only [Act.put, List.setIfInBounds_toArray, List.set_cons_zero, List.set_cons_succ, i64_w, i32_w]
    rfl
  refine pure_ (i := 1) (N := some 41) (v := ?_) (a' := ?_) #[true, true, false, false, false, false, false, false, false, false, false] rfl rfl (any_of HT_.out (by kernel_rfl)) (fun _ _ _ h => h) (Or.inl ⟨by rfl, ?_⟩) ?_ ?_
  rotate_left
  · intro w'
    go_simp
    with_reducible rfl
  rotate_left
  · simp only [Act.put, List.setIfInBounds_toArray, List.set_cons_zero, List.set_cons_succ, i64_w, i32_w]
    rfl
  refine pure_ (i := 2) (N := some 42) (v := ?_) (a' := ?_) #[true, true, true, false, false, false, false, false, false, false, false] rfl rfl (any_of HT_.out (by kernel_rfl)) (fun _ _ _ h => h) (Or.inl ⟨by rfl, ?_⟩) ?_ ?_
  rotate_left
  · intro w'
    go_simp
    with_reducible rfl
  rotate_left
  · simp only [Act.put, List.setIfInBounds_toArray, List.set_cons_zero, List.set_cons_succ, i64_w, i32_w]
    rfl
  refine pure_ (i := 3) (N := some 43) (v := ?_) (a' := ?_) #[true, true, true, true, false, false, false, false, false, false, false] rfl rfl (any_of HT_.out (by kernel_rfl)) (fun _ _ _ h => h) (Or.inl ⟨by rfl, ?_⟩) ?_ ?_
  rotate_left
  · intro w'
    go_simp
    with_reducible rfl
  rotate_left
  · simp only [Act.put, List.setIfInBounds_toArray, List.set_cons_zero, List.set_cons_succ, i64_w, i32_w]
    rfl
  refine take_ (i := 4) (N := some 44) (v := ?_) (a' := ?_) #[true, true, true, true, true, false, false, false, false, false, false] rfl rfl (take_ofW HT_.out HW_.out (by kernel_rfl)) (fun _ _ _ h => h) (Or.inl ⟨by rfl, ?_⟩) hHeld ?_ ?_
  rotate_left
  · rintro w' ⟨s0, s1, s2, s3, s4⟩
    go_simp
    with_reducible rfl
  rotate_left
  · simp only [Act.put, List.setIfInBounds_toArray, List.set_cons_zero, List.set_cons_succ, i64_w, i32_w]
    rfl
  refine take_ (i := 5) (N := some 45) (v := ?_) (a' := ?_) #[true, true, true, true, true, true, false, false, false, false, false] rfl rfl (take_ofW HT_.out HW_.out (by kernel_rfl)) (fun _ _ _ h => h) (Or.inl ⟨by rfl, ?_⟩) hHeld ?_ ?_
  rotate_left
  · rintro w' ⟨s0, s1, s2, s3, s4⟩
    go_simp
    with_reducible rfl
  rotate_left
  · simp only [Act.put, List.setIfInBounds_toArray, List.set_cons_zero, List.set_cons_succ, i64_w, i32_w]
    rfl
  refine one_ (i := 6) (N := some 46) #[true, true, true, true, true, true, true, false, false, false, false] rfl rfl (one_of HT_.out (by kernel_rfl)) (by decide) (fun K hK => ?_)
  refine event_step (v := .slice (some ⟨w10.drew.heap.size, 0, none⟩) 1 1) (w1 := (w10.drew.alloc (.cells #[.int .i64 b, .int .i64 0, .bool false, .bool true] 59))) (by rfl) (by first | (go_simp; done) | (go_simp; rfl)) ?_
  have hbA : Below w10.drew.heap.size w10.drew (w10.drew.alloc (.cells #[.int .i64 b, .int .i64 0, .bool false, .bool true] 59)) := below_alloc (Below.refl _ _) _
  refine hK.out _ _ ⟨pw_cell_below hbA hHeld.1, pw_cell_below hbA hHeld.2.1, pw_cell_below hbA hHeld.2.2.1, pw_cell_below hbA hHeld.2.2.2.1, pw_cell_below hbA hHeld.2.2.2.2⟩ (fun hHeld => ?_)
  clear hK K
  refine norm_ (a' := ?_) ?_ ?_
  rotate_left
  · show Act.put _ (some 46) _ = _
    simp only [Act.put, List.setIfInBounds_toArray, List.set_cons_zero, List.set_cons_succ, i64_w, i32_w]
    rfl
  refine last_ (i := 7) (N := some 47) #[true, true, true, true, true, true, true, true, false, false, false] rfl rfl (one_of HT_.out (by kernel_rfl)) (by decide) (fun K hK => ?_)
  refine Kd.R_append_step k59 (w0 := w0) w0.heap.size (by rfl) (.tmp 44) (.tmp 46) 53 59 (.agg #[.int .i64 0, .int .i64 0, .bool false, .bool false]) 24 rfl Try.underlying53 info59 rfl (by decide) (by omega) (.slice A9 (rot row hand).length c9) (rot row hand) (inF b) [.int .i64 b, .int .i64 0, .bool false, .bool true] (fun k => (P k ∧ k < w.heap.size) ∨ w9.heap.size ≤ k) (fun _ => False) rfl rfl (k59_mkM _ _ _ (inF b)) (fun _ h => h.elim) (fun k hk => .inr (Nat.le_trans (Nat.le_trans K2.out.1 (by show w10.heap.size ≤ w10.drew.heap.size; exact Nat.le_refl _)) hk)) (Kd.R_drew HR10.out) (below_drew B2.out) (Nat.le_trans B2.out.size (Nat.le_refl _)) (by have := hnn.out; simp [rot]; omega) ?_
  intro v1 w1 ho hb hg hat
  obtain ⟨A1, c1, ev1⟩ := Kd.R_slice ho
  subst ev1
  have el1 : (rot row hand ++ [inF b]).length = (rot row hand).length + 1 := by simp
  rw [el1] at ho ⊢
  have gg : w1.heap[g]? = some (.cells #[.int .i64 most, .slice A9 (rot row hand).length c9, .int .i64 0] 55 (0, 0)) := (hg.block g (blk_lt (blk_drew HG10.out)) (Kd.R_ne HR10.out HG10.out (by decide))).trans (blk_drew HG10.out)
  have GG := Aside0.mk gg
  have ho1 := Aside0.mk ho
  have hb1 := Aside0.mk hb
  have hg1 := Aside0.mk hg
  clear gg ho hb hg hat
  refine hK.out _ _ ?_
  clear hK K
  refine norm_ (a' := ?_) ?_ ?_
  rotate_left
  · show Act.put _ (some 47) _ = _
    simp only [Act.put, List.setIfInBounds_toArray, List.set_cons_zero, List.set_cons_succ, i64_w, i32_w]
    rfl
  refine pure_ (i := 8) (N := some 48) (v := ?_) (a' := ?_) #[true, true, true, true, true, true, true, true, true, false, false] rfl rfl (any_of HT_.out (by kernel_rfl)) (fun _ _ _ h => h) (Or.inl ⟨by rfl, ?_⟩) ?_ ?_
  rotate_left
  · intro w'
    go_simp
    with_reducible rfl
  rotate_left
  · simp only [Act.put, List.setIfInBounds_toArray, List.set_cons_zero, List.set_cons_succ, i64_w, i32_w]
    rfl
  refine pure_ (i := 9) (N := some 49) (v := ?_) (a' := ?_) #[true, true, true, true, true, true, true, true, true, true, false] rfl rfl (any_of HT_.out (by kernel_rfl)) (fun _ _ _ h => h) (Or.inl ⟨by rfl, ?_⟩) ?_ ?_
  rotate_left
  · intro w'
    go_simp
    with_reducible rfl
  rotate_left
  · simp only [Act.put, List.setIfInBounds_toArray, List.set_cons_zero, List.set_cons_succ, i64_w, i32_w]
    rfl
  refine last_ (i := 10) (N := none) #[true, true, true, true, true, true, true, true, true, true, true] rfl rfl (one_of HT_.out (by kernel_rfl)) (by decide) (fun K hK => ?_)
  have hs8 : w1.cell? ⟨g, 1, none⟩ = some (.slice A9 (rot row hand).length c9) := (blk_cell GG.out 1).trans rfl
  have hf8 := blk_frozen GG.out 1
  refine skip_ (w1 := ?_) (by rfl) rfl ?_ ?_
  rotate_left
  · go_simp
    rfl
  refine hK.out _ _ ?_
  clear hK K
  refine done_ (done_of HT_.out (by kernel_rfl)) ?_
  have hg11 : w1.heap[g]? = some (.cells #[.int .i64 most, .slice A9 (rot row hand).length c9, .int .i64 0] 55 (0, 0)) := GG.out
  have HO11 := Aside0.mk (Kd.R_set ho1.out hg11 (by simp [show k59.E = [] from rfl]) 1 (.slice A1 ((rot row hand).length + 1) c1))
  have HG11 : Aside0 ((w1.setCell ⟨g, 1, none⟩ (.slice A1 ((rot row hand).length + 1) c1)).heap[g]? = some (.cells #[.int .i64 most, .slice A1 ((rot row hand).length + 1) c1, .int .i64 0] 55 (0, 0))) := ⟨blk_put hg11 1 _ rfl⟩
  clear hg11
  go_wp2
  go_ret2
  refine ⟨rfl, ⟨hgB, .inl hgP, _, HG11.out, Kd.R_mono HO11.out (fun k hk => hk.elim (fun h => .inl h.1) (fun h => .inr (Nat.le_trans Hb9.out.size h)))⟩, hb1.out.setCell (p := ⟨g, 1, none⟩) hgB _, ?_, fun k hk hS => ?_⟩
  · rw [World.size_setCell]
    exact Nat.le_trans (Nat.le_trans Hb9.out.size K2.out.1) hg1.out.size
  · have hkg : k ≠ g := fun e => hS (e ▸ hgP)
    have hk9 : k < w9.heap.size := Nat.lt_of_lt_of_le hk Hb9.out.size
    have hk10 : k < w10.heap.size := Nat.lt_of_lt_of_le hk9 K2.out.1
    rw [Below.heap_setCell _ _ _ k hkg]
    refine (hg1.out.block k hk10 (fun e => ?_)).trans ((K2.out.2 k hk9 (fun h => hS h.1)).trans (Hb9.out.block k hk))
    rcases HR10.out.1 k e.symm with h | h
    · exact hS h.1
    · exact absurd hk9 (by omega)
set_option maxHeartbeats 4000000 in
set_option maxRecDepth 100000 in
theorem Use_full (g : Nat) (P : Nat → Prop) (most : Int) (hand : Nat) (row : List S59) (b : Int) (w0 w : World) (hB : Below w0.heap.size w0 w) (h : CS w0.heap.size P w g most row (hand : Int)) (hn : row.length < 1000) (hb : 0 ≤ b ∧ b < 96) (hix : ix row b < 0) (hroom : most ≤ (row.length : Int)) (hcan : row.any canB = false) :
    Calls Try.prog 11 #[.pointer (some ⟨g, 0, none⟩), .int .i64 b] w fun e w' => e = .returned (.tuple #[.int .i64 (-1), .int .i64 11]) ∧ Below w.heap.size w w' := by
  have d1 : decide (b < 0) = false := by simp; omega
  have d2 : decide (96 ≤ b) = false := by simp; omega
  rcases find_cs b h hn with ⟨hm, hf⟩ | ⟨n, gr, cap, hlt, hm, -, -⟩
  rotate_left
  · exact absurd hix (by omega)
  have HB := Aside0.mk hB
  have HS := Aside0.mk h
  obtain ⟨hgB, hgP, v, hg, hR⟩ := h
  obtain ⟨A0, c0, rfl, hcap, hC⟩ := Kd.R_reads hR
  have HG := Aside0.mk hg
  have HR := Aside0.mk hR
  have HC := Aside0.mk hC
  have hnn : Aside0 (row.length < 1000) := ⟨hn⟩
  clear hg hR hC hB hn
  go_enter Try.func11, Try.ntmps11
  go_upto_region 10 with (first | (go_at_call 25; with_reducible refine (hf _ (Below.refl _ _)).mono ?_; rintro e w' ⟨rfl, hb6⟩) | ((with_reducible refine gate_dst (N := 7) rfl ?_); refine box_event ?hg (N := 7) ?hd (cs := #[.int .i64 0, .int .i64 0, .bool false, .bool false]) (t := 59) ?hr ?_; (case hd => rfl); (case hg => rfl); (case hr => first | (go_simp; done) | (go_simp; rfl)); intro gi hgi w7 hbox hb7; have z0 : w7.cell? ⟨gi, 0, none⟩ = some (.int .i64 0) := (blk_cell hbox 0).trans rfl; have z1 : w7.cell? ⟨gi, 1, none⟩ = some (.int .i64 0) := (blk_cell hbox 1).trans rfl; have z2 : w7.cell? ⟨gi, 2, none⟩ = some (.bool false) := (blk_cell hbox 2).trans rfl; have z3 : w7.cell? ⟨gi, 3, none⟩ = some (.bool false) := (blk_cell hbox 3).trans rfl; have y0 := blk_frozen hbox 0; have y1 := blk_frozen hbox 1; have y2 := blk_frozen hbox 2; have y3 := blk_frozen hbox 3; have HX := Aside0.mk hbox; have HI := Aside0.mk hgi; have HB7 := Aside0.mk hb7; have HB6 := Aside0.mk hb6; clear hbox hgi hb7 hb6))
  have hi8 : ((((w7.setCell ⟨gi, 0, none⟩ (.int .i64 b)).setCell ⟨gi, 1, none⟩ (.int .i64 0)).setCell ⟨gi, 2, none⟩ (.bool false)).setCell ⟨gi, 3, none⟩ (.bool true)).heap[gi]? = some (.cells #[.int .i64 b, .int .i64 0, .bool false, .bool true] 59 (0, 0)) := blk_put (blk_put (blk_put (blk_put HX.out 0 _ rfl) 1 _ rfl) 2 _ rfl) 3 _ rfl
  have hgi : w.heap.size ≤ gi := by have := HI.out; have := HB6.out.size; omega
  have hb8 : Below w.heap.size w ((((w7.setCell ⟨gi, 0, none⟩ (.int .i64 b)).setCell ⟨gi, 1, none⟩ (.int .i64 0)).setCell ⟨gi, 2, none⟩ (.bool false)).setCell ⟨gi, 3, none⟩ (.bool true)) := ((((below_step HB6.out HB7.out).setCell (p := ⟨gi, 0, none⟩) hgi _).setCell (p := ⟨gi, 1, none⟩) hgi _).setCell (p := ⟨gi, 2, none⟩) hgi _).setCell (p := ⟨gi, 3, none⟩) hgi _
  clear z0 z1 z2 z3 y0 y1 y2 y3
  generalize ((((w7.setCell ⟨gi, 0, none⟩ (.int .i64 b)).setCell ⟨gi, 1, none⟩ (.int .i64 0)).setCell ⟨gi, 2, none⟩ (.bool false)).setCell ⟨gi, 3, none⟩ (.bool true)) = w8 at *
  have cs8 := CS.below (HS.out.bound) (show Below w.heap.size w w8.drew from below_drew hb8)
  have hB8 : Below w0.heap.size w0 w8.drew := below_then HB.out HB.out.size (below_drew hb8)
  have d3 : decide ((row.length : Int) < most) = false := by simp; omega
  refine start_ (n := 10) (S := fun w' => w'.cell? ⟨g, 1, none⟩ = some (.slice A0 row.length c0) ∧ w'.cell? ⟨g, 0, none⟩ = some (.int .i64 most)) (ds := []) #[false, false, false, false, false, false, false, false, false, false] (by kernel_rfl) rfl rfl ⟨pw_cell_below (below_drew hb8) ((blk_cell HG.out 1).trans rfl), pw_cell_below (below_drew hb8) ((blk_cell HG.out 0).trans rfl)⟩ (fun hHeld => ?_); refine with_tabW Use_tab10 Use_bits10 (fun HT_ HW_ => ?_)
  refine pure_ (i := 0) (N := some 28) (v := ?_) (a' := ?_) #[true, false, false, false, false, false, false, false, false, false] rfl rfl (any_of HT_.out (by kernel_rfl)) (fun _ _ _ h => h) (Or.inl ⟨by rfl, ?_⟩) ?_ ?_
  rotate_left
  · intro w'
    go_simp
    with_reducible rfl
  rotate_left
  · simp only [Act.put, List.setIfInBounds_toArray, List.set_cons_zero, List.set_cons_succ, i64_w, i32_w]
    rfl
  refine pure_ (i := 1) (N := some 29) (v := ?_) (a' := ?_) #[true, true, false, false, false, false, false, false, false, false] rfl rfl (any_of HT_.out (by kernel_rfl)) (fun _ _ _ h => h) (Or.inl ⟨by rfl, ?_⟩) ?_ ?_
  rotate_left
  · intro w'
    go_simp
    with_reducible rfl
  rotate_left
  · simp only [Act.put, List.setIfInBounds_toArray, List.set_cons_zero, List.set_cons_succ, i64_w, i32_w]
    rfl
  refine pure_ (i := 2) (N := some 30) (v := ?_) (a' := ?_) #[true, true, true, false, false, false, false, false, false, false] rfl rfl (any_of HT_.out (by kernel_rfl)) (fun _ _ _ h => h) (Or.inl ⟨by rfl, ?_⟩) ?_ ?_
  rotate_left
  · intro w'
    go_simp
    with_reducible rfl
  rotate_left
  · simp only [Act.put, List.setIfInBounds_toArray, List.set_cons_zero, List.set_cons_succ, i64_w, i32_w]
    rfl
  refine take_ (i := 3) (N := some 31) (v := ?_) (a' := ?_) #[true, true, true, true, false, false, false, false, false, false] rfl rfl (take_ofW HT_.out HW_.out (by kernel_rfl)) (fun _ _ _ h => h) (Or.inl ⟨by rfl, ?_⟩) hHeld ?_ ?_
  rotate_left
  · rintro w' ⟨s0, s1⟩
    go_simp
    with_reducible rfl
  rotate_left
  · simp only [Act.put, List.setIfInBounds_toArray, List.set_cons_zero, List.set_cons_succ, i64_w, i32_w]
    rfl
  refine pure_ (i := 4) (N := some 32) (v := ?_) (a' := ?_) #[true, true, true, true, true, false, false, false, false, false] rfl rfl (any_of HT_.out (by kernel_rfl)) (fun _ _ _ h => h) (Or.inl ⟨by rfl, ?_⟩) ?_ ?_
  rotate_left
  · intro w'
    go_simp
    with_reducible rfl
  rotate_left
  · simp only [Act.put, List.setIfInBounds_toArray, List.set_cons_zero, List.set_cons_succ, i64_w, i32_w]
    rfl
  refine pure_ (i := 5) (N := some 33) (v := ?_) (a' := ?_) #[true, true, true, true, true, true, false, false, false, false] rfl rfl (any_of HT_.out (by kernel_rfl)) (fun _ _ _ h => h) (Or.inl ⟨by rfl, ?_⟩) ?_ ?_
  rotate_left
  · intro w'
    go_simp
    with_reducible rfl
  rotate_left
  · simp only [Act.put, List.setIfInBounds_toArray, List.set_cons_zero, List.set_cons_succ, i64_w, i32_w]
    rfl
  refine pure_ (i := 6) (N := some 34) (v := ?_) (a' := ?_) #[true, true, true, true, true, true, true, false, false, false] rfl rfl (any_of HT_.out (by kernel_rfl)) (fun _ _ _ h => h) (Or.inl ⟨by rfl, ?_⟩) ?_ ?_
  rotate_left
  · intro w'
    go_simp
    with_reducible rfl
  rotate_left
  · simp only [Act.put, List.setIfInBounds_toArray, List.set_cons_zero, List.set_cons_succ, i64_w, i32_w]
    rfl
  refine pure_ (i := 7) (N := some 35) (v := ?_) (a' := ?_) #[true, true, true, true, true, true, true, true, false, false] rfl rfl (any_of HT_.out (by kernel_rfl)) (fun _ _ _ h => h) (Or.inl ⟨by rfl, ?_⟩) ?_ ?_
  rotate_left
  · intro w'
    go_simp
    with_reducible rfl
  rotate_left
  · simp only [Act.put, List.setIfInBounds_toArray, List.set_cons_zero, List.set_cons_succ, i64_w, i32_w]
    rfl
  refine take_ (i := 8) (N := some 36) (v := ?_) (a' := ?_) #[true, true, true, true, true, true, true, true, true, false] rfl rfl (take_ofW HT_.out HW_.out (by kernel_rfl)) (fun _ _ _ h => h) (Or.inl ⟨by rfl, ?_⟩) hHeld ?_ ?_
  rotate_left
  · rintro w' ⟨s0, s1⟩
    go_simp
    with_reducible rfl
  rotate_left
  · simp only [Act.put, List.setIfInBounds_toArray, List.set_cons_zero, List.set_cons_succ, i64_w, i32_w]
    rfl
  refine pure_ (i := 9) (N := some 37) (v := ?_) (a' := ?_) #[true, true, true, true, true, true, true, true, true, true] rfl rfl (any_of HT_.out (by kernel_rfl)) (fun _ _ _ h => h) (Or.inl ⟨by rfl, ?_⟩) ?_ ?_
  rotate_left
  · intro w'
    go_simp
    with_reducible rfl
  rotate_left
  · simp only [Act.put, List.setIfInBounds_toArray, List.set_cons_zero, List.set_cons_succ, i64_w, i32_w]
    rfl
  refine done_ (done_of HT_.out (by kernel_rfl)) ?_
  have hi9 := blk_drew hi8
  have c1 : w8.drew.cell? ⟨g, 1, none⟩ = some (.slice A0 row.length c0) := hHeld.1
  have HC9 := Aside0.mk (Kd.C_below HC.out (show Below w.heap.size w w8.drew from below_drew hb8))
  have HCS := Aside0.mk cs8
  have HB8 := Aside0.mk hB8
  have HI8 := Aside0.mk hi9
  have Hb9 : Aside0 (Below w.heap.size w w8.drew) := ⟨below_drew hb8⟩
  clear cs8 hB8 hi9 hb8 hi8 hHeld
  generalize w8.drew = w9 at *
  go_wp2_with (go_at_call 27; with_reducible refine (contains_calls A0 c0 row _ HC9.out (by have := hnn.out; omega)).mono ?_; rw [hcan]; rintro e w10 ⟨rfl, hb10⟩; have B10 := Aside0.mk hb10; clear hb10)
  go_ret2
  exact ⟨rfl, below_step Hb9.out B10.out⟩
end Go.Proofs.Ytlmnagbfmkaglaa.CC
