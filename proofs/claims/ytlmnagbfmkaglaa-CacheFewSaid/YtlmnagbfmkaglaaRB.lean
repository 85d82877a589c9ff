import Derived.Test.YtlmnagbfmkaglaaR3
/-! Contracts: Use of the document's cache. -/
namespace Go.Proofs.Ytlmnagbfmkaglaa.CC
open Go.RowKit Go.Proofs.Ytlmnagbfmkaglaa.PG Go.Proofs.YtlmnagbfmkaglaaW.PrintWords Go.Proofs.YtlmnagbfmkaglaaW.PrintLast Go.Proofs.YtlmnagbfmkaglaaW.PrintMore
attribute [local go_sem] Oper.semAt_some

def inR (b : Int) : S71 := ⟨b, 0, false, true⟩
theorem UseR_range (g : Nat) (b : Int) (hb : b < 0 ∨ 96 ≤ b) (w : World) : Calls Try.prog 36 #[.pointer (some ⟨g, 0, none⟩), .int .i64 b] w fun e w' => e = .returned (.tuple #[.int .i64 (-1), .int .i64 2]) ∧ Below w.heap.size w w' := by
  by_cases h : b < 0
  · have d1 : decide (b < 0) = true := by simpa using h
    go_enter Try.func36, Try.ntmps36
    go_wp2
    go_ret2
    exact ⟨rfl, Below.refl _ _⟩
  · have d1 : decide (b < 0) = false := by simpa using h
    have d2 : decide (96 ≤ b) = true := by simp; omega
    go_enter Try.func36, Try.ntmps36
    go_wp2
    go_ret2
    exact ⟨rfl, Below.refl _ _⟩
theorem UseR_hit (g : Nat) (P : Nat → Prop) (most : Int) (l : List S71) (b : Int) (w0 w : World) (hB : Below w0.heap.size w0 w) (h : RS w0.heap.size P w g most l) (hn : l.length < 1000) (hb : 0 ≤ b ∧ b < 96) (n : Nat) (hix : ixR l b = (n : Int)) :
    Calls Try.prog 36 #[.pointer (some ⟨g, 0, none⟩), .int .i64 b] w fun e w' => e = .returned (.tuple #[.int .i64 (-1), .int .i64 0]) ∧ RS w0.heap.size P w' g most (l.set n ⟨(l.getD n z71).f0, (l.getD n z71).f1, (l.getD n z71).f2, true⟩) ∧ Below w0.heap.size w0 w' ∧ Kept w w' P := by
  have HB := Aside0.mk hB
  have HS := Aside0.mk h
  have d1 : decide (b < 0) = false := by simp; omega
  have d2 : decide (96 ≤ b) = false := by simp; omega
  have hf := at_rs b h hn
  rw [hix] at hf
  obtain ⟨hlt, -⟩ := ixR_at hix
  obtain ⟨gr, cap, hg, hR, hne, hP, hb0, hl, -⟩ := rs_open h (by omega)
  rw [getD_at71 _ _ hlt]
  have q1 := (rs_cells hR n hlt).1.2.2.2
  have c1 := (blk_cell hg 1).trans rfl
  have d0 : decide (0 ≤ (n : Int)) = true := by simp
  have p1 : (0 ≤ (n : Int)) = True := eq_true (by omega)
  have p2 : ((n : Int) < (l.length : Int)) = True := eq_true (by omega)
  have HR := Aside0.mk hR
  have HG := Aside0.mk hg
  clear hR hg h hB hix
  go_enter Try.func36, Try.ntmps36
  go_wp2_with (go_at_call 43; with_reducible refine hf.mono ?_; rintro e w6 ⟨rfl, hb⟩; have q2 := pw_cell_below hb q1; have c2 := pw_cell_below hb c1; have f2 := (rs_cells (Kd.R_below HR.out hb) n hlt).2 3; have HB6 := Aside0.mk hb)
  go_ret2
  obtain ⟨r1, r2⟩ := rs_put (Kd.R_below HR.out HB6.out) n 3 hlt (by omega) (.bool true) ⟨l[n].f0, l[n].f1, l[n].f2, true⟩ rfl
  obtain ⟨s1, s2⟩ := RS.put HS.out.base HS.out.mine hP hne (List.length_set ..) (blk_below HG.out HB6.out) r1 r2
  exact ⟨rfl, s1, below_grown (below_then HB.out HB.out.size HB6.out) r2 hb0 (Nat.le_trans HB.out.size HB6.out.size), Nat.le_trans HB6.out.size r2.size, fun k hk hS => (r2.block k (Nat.lt_of_lt_of_le hk HB6.out.size) (fun e => hS (by injection e with e; rw [e]; exact hP))).trans (HB6.out.block k hk)⟩
set_option maxHeartbeats 4000000 in
set_option maxRecDepth 100000 in
theorem UseR_room (g : Nat) (P : Nat → Prop) (most : Int) (l : List S71) (b : Int) (w0 w : World) (hB : Below w0.heap.size w0 w) (h : RS w0.heap.size P w g most l) (hn : l.length < 1000) (hb : 0 ≤ b ∧ b < 96) (hix : ixR l b = -1) (hroom : (l.length : Int) < most) :
    Calls Try.prog 36 #[.pointer (some ⟨g, 0, none⟩), .int .i64 b] w fun e w' => e = .returned (.tuple #[.int .i64 (-1), .int .i64 0]) ∧ RS w0.heap.size (fun k => P k ∨ w.heap.size ≤ k) w' g most (l ++ [inR b]) ∧ Below w0.heap.size w0 w' ∧ Kept w w' P := by
  have d1 : decide (b < 0) = false := by simp; omega
  have d2 : decide (96 ≤ b) = false := by simp; omega
  have hf := at_rs b h hn
  rw [hix] at hf
  have HB := Aside0.mk hB
  have HS := Aside0.mk h
  obtain ⟨hgB, hgP, v, hg, hR⟩ := h
  obtain ⟨A, c, rfl, hcap, hC⟩ := Kd.R_reads hR
  have HG := Aside0.mk hg
  have HC := Aside0.mk hC
  have HN := Aside0.mk hn
  have c1 := (blk_cell hg 1).trans rfl
  have c0 := (blk_cell hg 0).trans rfl
  clear hg hR hC hB hn
  go_enter Try.func36, Try.ntmps36
  go_upto_region 11 with (first | (go_at_call 43; with_reducible refine hf.mono ?_; rintro e w4 ⟨rfl, hb4⟩; have c2 := pw_cell_below hb4 c1; have c3 := pw_cell_below hb4 c0) | ((with_reducible refine gate_dst (N := 35) rfl ?_); refine Kd.R_lit k71 (w0 := w) w.heap.size 71 ?hg (N := 35) ?hd (xs := ([] : List S71)) (inner := []) (ok := fun _ => True) (okp := fun _ => False) ?hr (Reps.none _ _) (fun _ h => h.elim) trivial hb4 hb4.size (by decide) ?_; (case hd => rfl); (case hg => rfl); (case hr => first | (go_simp; done) | (go_simp; rfl)); intro v1 w1 ho1 hb1 hg_ hnew_; clear hg_ hnew_; obtain ⟨A1, c1', e1⟩ := Kd.R_slice ho1; subst e1; have c4 := pw_cell_below hb1 ((blk_cell HG.out 1).trans rfl)) | ((with_reducible refine gate_builtin (b := .append) (xs := #[.tmp 35, .tmp 39]) rfl ?_); at_builtin; refine Kd.R_append_rows k71 (w0 := w) w.heap.size rfl (.tmp 35) (.tmp 39) 65 71 (.agg #[.int .i64 0, .int .i64 0, .bool false, .bool false]) 24 rfl Try.underlying65 info71 rfl (by decide) (by omega) _ ([] : List S71) l A l.length c (fun _ => True) (fun _ => False) rfl rfl ho1 (Kd.C_below HC.out hb1) (fun x cs h => by obtain rfl := k71_open h; exact k71_mkM _ _ _ x) (fun _ h => h.elim) (fun _ _ => trivial) hb1 hb1.size ?aL ?_; (case aL => have := HN.out; simp; omega); intro v2 w2 ho hb hg hat; clear hg hat; rw [List.nil_append] at ho; obtain ⟨A2, c2', e2⟩ := Kd.R_slice ho; subst e2; have HO2 := Aside0.mk ho; have HB2 := Aside0.mk hb; clear ho hb) | ((with_reducible refine gate_dst (N := 8) rfl ?_); refine box_event ?hg (N := 8) ?hd (cs := #[.int .i64 0, .int .i64 0, .bool false, .bool false]) (t := 71) ?hr ?_; (case hd => rfl); (case hg => rfl); (case hr => first | (go_simp; done) | (go_simp; rfl)); intro gi hgi w7 hbox hb7; have z0 : w7.cell? ⟨gi, 0, none⟩ = some (.int .i64 0) := (blk_cell hbox 0).trans rfl; have z1 : w7.cell? ⟨gi, 1, none⟩ = some (.int .i64 0) := (blk_cell hbox 1).trans rfl; have z2 : w7.cell? ⟨gi, 2, none⟩ = some (.bool false) := (blk_cell hbox 2).trans rfl; have z3 : w7.cell? ⟨gi, 3, none⟩ = some (.bool false) := (blk_cell hbox 3).trans rfl; have y0 := blk_frozen hbox 0; have y1 := blk_frozen hbox 1; have y2 := blk_frozen hbox 2; have y3 := blk_frozen hbox 3; have HX := Aside0.mk hbox; have HI := Aside0.mk hgi; have HB7 := Aside0.mk hb7; clear hbox hgi hb7))
  have hi8 : ((((w7.setCell ⟨gi, 0, none⟩ (.int .i64 b)).setCell ⟨gi, 1, none⟩ (.int .i64 0)).setCell ⟨gi, 2, none⟩ (.bool false)).setCell ⟨gi, 3, none⟩ (.bool true)).heap[gi]? = some (.cells #[.int .i64 b, .int .i64 0, .bool false, .bool true] 71 (0, 0)) := blk_put (blk_put (blk_put (blk_put HX.out 0 _ rfl) 1 _ rfl) 2 _ rfl) 3 _ rfl
  have hgi2 : w2.heap.size ≤ gi := Nat.le_of_eq HI.out.symm
  have hgiw : w.heap.size ≤ gi := Nat.le_trans HB2.out.size hgi2
  have hb28 : Below w2.heap.size w2 ((((w7.setCell ⟨gi, 0, none⟩ (.int .i64 b)).setCell ⟨gi, 1, none⟩ (.int .i64 0)).setCell ⟨gi, 2, none⟩ (.bool false)).setCell ⟨gi, 3, none⟩ (.bool true)) := (((HB7.out.setCell (p := ⟨gi, 0, none⟩) hgi2 _).setCell (p := ⟨gi, 1, none⟩) hgi2 _).setCell (p := ⟨gi, 2, none⟩) hgi2 _).setCell (p := ⟨gi, 3, none⟩) hgi2 _
  clear z0 z1 z2 z3 y0 y1 y2 y3 c2 c3 c4 c1 c0 HB7 HX HI
  generalize ((((w7.setCell ⟨gi, 0, none⟩ (.int .i64 b)).setCell ⟨gi, 1, none⟩ (.int .i64 0)).setCell ⟨gi, 2, none⟩ (.bool false)).setCell ⟨gi, 3, none⟩ (.bool true)) = w8 at *
  have hb8 : Below w.heap.size w w8 := below_step HB2.out hb28
  have ho8 : Kd.R k71 71 w8 w.heap.size (fun k => k ≠ gi) (.slice A2 l.length c2') l := Kd.R_mono (Kd.R_below (Kd.R_bound HO2.out) hb28) (fun k hk => by have := hk.2.2.1; omega)
  have c5 := pw_cell_below hb8 ((blk_cell HG.out 0).trans rfl)
  have HO8 := Aside0.mk ho8
  have HB8 := Aside0.mk hb8
  have HI8 := Aside0.mk hi8
  clear ho8 hb8 hb28 ho1 hb1 HO2 HB2 hi8
  have d3 : decide ((l.length : Int) < most) = true := by simpa using hroom
  have z0 : w8.cell? ⟨gi, 0, none⟩ = some (.int .i64 b) := (blk_cell HI8.out 0).trans rfl
  have z1 : w8.cell? ⟨gi, 1, none⟩ = some (.int .i64 0) := (blk_cell HI8.out 1).trans rfl
  have z2 : w8.cell? ⟨gi, 2, none⟩ = some (.bool false) := (blk_cell HI8.out 2).trans rfl
  have z3 : w8.cell? ⟨gi, 3, none⟩ = some (.bool true) := (blk_cell HI8.out 3).trans rfl
  have hgl : gi < w8.heap.size := blk_lt HI8.out
  clear HI8
  go_wp2_with (first | ((with_reducible refine gate_builtin (b := .append) (xs := #[.tmp 51, .tmp 53]) rfl ?_); at_builtin; refine Kd.R_append k71 (w0 := w) w.heap.size rfl (.tmp 51) (.tmp 53) 65 71 (.agg #[.int .i64 0, .int .i64 0, .bool false, .bool false]) 24 rfl Try.underlying65 info71 rfl (by decide) (by omega) (.slice A2 l.length c2') l (inR b) [.int .i64 b, .int .i64 0, .bool false, .bool true] (fun k => k ≠ gi) (fun _ => False) rfl rfl (k71_mkM _ _ _ (inR b)) (fun _ hk => hk.elim) ?aF HO8.out HB8.out HB8.out.size ?aL ?_; (case aF => exact fun k hk => by omega); (case aL => have := HN.out; omega); intro v3 w9 ho hb hg hat; have HO9 := Aside0.mk ho; have HB9 := Aside0.mk hb; clear hg hat; obtain ⟨A3, c3, e3⟩ := Kd.R_slice ho; subst e3; have c9 := pw_cell_below hb ((blk_cell HG.out 1).trans rfl); have f9 := blk_frozen (blk_below HG.out hb) 1; clear ho hb))
  go_ret2
  have hr := rs_new HB.out hgB hgP HG.out HB9.out (Kd.R_mono HO9.out (fun _ _ => trivial))
  exact ⟨rfl, by simpa using hr⟩
end Go.Proofs.Ytlmnagbfmkaglaa.CC
/-! Contracts: Use of the document's cache, if there is no room. -/
namespace Go.Proofs.Ytlmnagbfmkaglaa.CC
open Go.RowKit Go.Proofs.Ytlmnagbfmkaglaa.PG Go.Proofs.YtlmnagbfmkaglaaW.PrintWords Go.Proofs.YtlmnagbfmkaglaaW.PrintLast Go.Proofs.YtlmnagbfmkaglaaW.PrintMore
attribute [local go_sem] Oper.semAt_some

set_option maxHeartbeats 4000000 in
set_option maxRecDepth 100000 in
theorem UseR_full (g : Nat) (P : Nat → Prop) (most : Int) (l : List S71) (b : Int) (w0 w : World) (hB : Below w0.heap.size w0 w) (h : RS w0.heap.size P w g most l) (hn : l.length < 1000) (hb : 0 ≤ b ∧ b < 96) (hix : ixR l b = -1) (hroom : most ≤ (l.length : Int)) (hcan : l.any goesB = false) :
    Calls Try.prog 36 #[.pointer (some ⟨g, 0, none⟩), .int .i64 b] w fun e w' => e = .returned (.tuple #[.int .i64 (-1), .int .i64 11]) ∧ Below w.heap.size w w' := by
  have d1 : decide (b < 0) = false := by simp; omega
  have d2 : decide (96 ≤ b) = false := by simp; omega
  have hf := at_rs b h hn
  rw [hix] at hf
  have HB := Aside0.mk hB
  have HS := Aside0.mk h
  obtain ⟨hgB, hgP, v, hg, hR⟩ := h
  obtain ⟨A, c, rfl, hcap, hC⟩ := Kd.R_reads hR
  have HG := Aside0.mk hg
  have HC := Aside0.mk hC
  have HN := Aside0.mk hn
  have c1 := (blk_cell hg 1).trans rfl
  have c0 := (blk_cell hg 0).trans rfl
  clear hg hR hC hB hn
  go_enter Try.func36, Try.ntmps36
  go_upto_region 11 with (first | (go_at_call 43; with_reducible refine hf.mono ?_; rintro e w4 ⟨rfl, hb4⟩; have c2 := pw_cell_below hb4 c1; have c3 := pw_cell_below hb4 c0) | ((with_reducible refine gate_dst (N := 35) rfl ?_); refine Kd.R_lit k71 (w0 := w) w.heap.size 71 ?hg (N := 35) ?hd (xs := ([] : List S71)) (inner := []) (ok := fun _ => True) (okp := fun _ => False) ?hr (Reps.none _ _) (fun _ h => h.elim) trivial hb4 hb4.size (by decide) ?_; (case hd => rfl); (case hg => rfl); (case hr => first | (go_simp; done) | (go_simp; rfl)); intro v1 w1 ho1 hb1 hg_ hnew_; clear hg_ hnew_; obtain ⟨A1, c1', e1⟩ := Kd.R_slice ho1; subst e1; have c4 := pw_cell_below hb1 ((blk_cell HG.out 1).trans rfl)) | ((with_reducible refine gate_builtin (b := .append) (xs := #[.tmp 35, .tmp 39]) rfl ?_); at_builtin; refine Kd.R_append_rows k71 (w0 := w) w.heap.size rfl (.tmp 35) (.tmp 39) 65 71 (.agg #[.int .i64 0, .int .i64 0, .bool false, .bool false]) 24 rfl Try.underlying65 info71 rfl (by decide) (by omega) _ ([] : List S71) l A l.length c (fun _ => True) (fun _ => False) rfl rfl ho1 (Kd.C_below HC.out hb1) (fun x cs h => by obtain rfl := k71_open h; exact k71_mkM _ _ _ x) (fun _ h => h.elim) (fun _ _ => trivial) hb1 hb1.size ?aL ?_; (case aL => have := HN.out; simp; omega); intro v2 w2 ho hb hg hat; clear hg hat; rw [List.nil_append] at ho; obtain ⟨A2, c2', e2⟩ := Kd.R_slice ho; subst e2; have HO2 := Aside0.mk ho; have HB2 := Aside0.mk hb; clear ho hb) | ((with_reducible refine gate_dst (N := 8) rfl ?_); refine box_event ?hg (N := 8) ?hd (cs := #[.int .i64 0, .int .i64 0, .bool false, .bool false]) (t := 71) ?hr ?_; (case hd => rfl); (case hg => rfl); (case hr => first | (go_simp; done) | (go_simp; rfl)); intro gi hgi w7 hbox hb7; have z0 : w7.cell? ⟨gi, 0, none⟩ = some (.int .i64 0) := (blk_cell hbox 0).trans rfl; have z1 : w7.cell? ⟨gi, 1, none⟩ = some (.int .i64 0) := (blk_cell hbox 1).trans rfl; have z2 : w7.cell? ⟨gi, 2, none⟩ = some (.bool false) := (blk_cell hbox 2).trans rfl; have z3 : w7.cell? ⟨gi, 3, none⟩ = some (.bool false) := (blk_cell hbox 3).trans rfl; have y0 := blk_frozen hbox 0; have y1 := blk_frozen hbox 1; have y2 := blk_frozen hbox 2; have y3 := blk_frozen hbox 3; have HX := Aside0.mk hbox; have HI := Aside0.mk hgi; have HB7 := Aside0.mk hb7; clear hbox hgi hb7))
  have hi8 : ((((w7.setCell ⟨gi, 0, none⟩ (.int .i64 b)).setCell ⟨gi, 1, none⟩ (.int .i64 0)).setCell ⟨gi, 2, none⟩ (.bool false)).setCell ⟨gi, 3, none⟩ (.bool true)).heap[gi]? = some (.cells #[.int .i64 b, .int .i64 0, .bool false, .bool true] 71 (0, 0)) := blk_put (blk_put (blk_put (blk_put HX.out 0 _ rfl) 1 _ rfl) 2 _ rfl) 3 _ rfl
  have hgi2 : w2.heap.size ≤ gi := Nat.le_of_eq HI.out.symm
  have hgiw : w.heap.size ≤ gi := Nat.le_trans HB2.out.size hgi2
  have hb28 : Below w2.heap.size w2 ((((w7.setCell ⟨gi, 0, none⟩ (.int .i64 b)).setCell ⟨gi, 1, none⟩ (.int .i64 0)).setCell ⟨gi, 2, none⟩ (.bool false)).setCell ⟨gi, 3, none⟩ (.bool true)) := (((HB7.out.setCell (p := ⟨gi, 0, none⟩) hgi2 _).setCell (p := ⟨gi, 1, none⟩) hgi2 _).setCell (p := ⟨gi, 2, none⟩) hgi2 _).setCell (p := ⟨gi, 3, none⟩) hgi2 _
  clear z0 z1 z2 z3 y0 y1 y2 y3 c2 c3 c4 c1 c0 HB7 HX HI
  generalize ((((w7.setCell ⟨gi, 0, none⟩ (.int .i64 b)).setCell ⟨gi, 1, none⟩ (.int .i64 0)).setCell ⟨gi, 2, none⟩ (.bool false)).setCell ⟨gi, 3, none⟩ (.bool true)) = w8 at *
  have hb8 : Below w.heap.size w w8 := below_step HB2.out hb28
  have ho8 : Kd.R k71 71 w8 w.heap.size (fun k => k ≠ gi) (.slice A2 l.length c2') l := Kd.R_mono (Kd.R_below (Kd.R_bound HO2.out) hb28) (fun k hk => by have := hk.2.2.1; omega)
  have c5 := pw_cell_below hb8 ((blk_cell HG.out 0).trans rfl)
  have HO8 := Aside0.mk ho8
  have HB8 := Aside0.mk hb8
  have HI8 := Aside0.mk hi8
  clear ho8 hb8 hb28 ho1 hb1 HO2 HB2 hi8
  have d3 : decide ((l.length : Int) < most) = false := by simp; omega
  have hC8 := (Kd.R_reads' HO8.out).2.2
  have HC8 := Aside0.mk hC8
  clear hC8
  go_wp2
  go_loopg [9, 10] l.length (fun kq v9 v10 w' => ∃ i : Nat, i + kq = l.length ∧ v9 = .bool ((l.take i).any goesB) ∧ v10 = .int .i64 (i : Int) ∧ Aside0 (Below w8.heap.size w8 w'))
  case atStart => exact ⟨0, by omega, by simp, rfl, ⟨Below.refl _ _⟩⟩
  case round =>
    obtain ⟨i, hi, rfl, rfl, hB1⟩ := hrel
    cases gk with
    | succ k1 =>
      have hlt : i < l.length := by omega
      have d4 : decide ((i : Int) < (l.length : Int)) = true := by simp; omega
      have p123 : 0 ≤ (i : Int) := by omega
      have q123 : (i : Int) < (l.length : Int) := by omega
      obtain ⟨ad, e, hx0, hx1, hx2, hx3⟩ := at_T71 (Kd.C_below HC8.out hB1.out) (i : Int) p123 q123
      cases e
      have hrd : rd_T71 l (i : Int) = l[i] := by simp [rd_T71, List.getD_eq_getElem?_getD, hlt]
      rw [hrd] at hx0 hx1 hx2 hx3
      obtain ⟨x, hx⟩ : ∃ x, l[i] = x := ⟨_, rfl⟩
      rw [hx] at hx0 hx1 hx2 hx3
      rw [Int.toNat_natCast] at hx0 hx1 hx2 hx3
      replace p123 := eq_true p123
      replace q123 := eq_true q123
      have htk : (l.take (i + 1)).any goesB = ((l.take i).any goesB || goesB x) := by
        rw [List.take_succ_eq_append_getElem hlt, List.any_append, hx]; simp
      have HTK := Aside0.mk htk
      have ew : Aside0 (wrap64 ((i : Int) + 1) = ((i + 1 : Nat) : Int)) := ⟨by have := HN.out; unfold wrap64; omega⟩
      clear htk
      cases hv : (l.take i).any goesB with
      | true =>
        rw [hv] at HTK
        go_wp2
        go_roundg k1
        case rel => exact ⟨i + 1, by omega, by rw [HTK.out]; rfl, by first | rfl | rw [ew.out], hB1⟩
        all_goals omega
      | false =>
        rw [hv] at HTK
        go_wp2_with (go_at_call 44; with_reducible refine (goes_calls x _).mono ?_; rintro e w9 ⟨rfl, hb9⟩; have HB9 := Aside0.mk hb9; clear hb9)
        go_roundg k1
        case rel => exact ⟨i + 1, by omega, by rw [HTK.out]; rfl, by first | rfl | rw [ew.out], ⟨below_step hB1.out HB9.out⟩⟩
        all_goals omega
    | zero =>
      obtain rfl : i = l.length := by omega
      have d4 : decide ((l.length : Int) < (l.length : Int)) = false := by simp
      rw [List.take_length]
      rw [hcan]
      go_wp2
      go_ret2
      exact ⟨rfl, below_step HB8.out hB1.out⟩
end Go.Proofs.Ytlmnagbfmkaglaa.CC
/-! Contracts: Use of the document's cache: it turns until one can go. -/
namespace Go.Proofs.Ytlmnagbfmkaglaa.CC
open Go.RowKit Go.Proofs.Ytlmnagbfmkaglaa.PG Go.Proofs.YtlmnagbfmkaglaaW.PrintWords Go.Proofs.YtlmnagbfmkaglaaW.PrintLast Go.Proofs.YtlmnagbfmkaglaaW.PrintMore
attribute [local go_sem] Oper.semAt_some

def UseR_T24 : Bool × List (List Nat × List Nat) := (true, [([], []), ([], []), ([1], [1]), ([0, 2], [0, 2]), ([], []), ([4], [4]), ([3, 5, 3], [3, 5]), ([6, 6, 0, 1, 2, 3, 4, 5, 6], [1, 6])])
def UseR_B24 : List Nat := [0, 0, 2, 7, 0, 16, 63, 127]
theorem UseR_tab24 : rtab .any (opsOf Try.f36 24) = UseR_T24 := by kernel_rfl
theorem UseR_bits24 : waitsOk UseR_T24.2 UseR_B24 = true := by kernel_rfl
def UseR_T26 : Bool × List (List Nat × List Nat) := (true, [([], []), ([], []), ([], []), ([2], [2]), ([1, 3], [1, 3]), ([], []), ([5], [5]), ([4, 6, 4], [4, 6]), ([0, 0, 1, 2, 3, 4, 5, 6, 7], [0]), ([8, 0, 1, 2, 3, 4, 5, 6, 7], [8]), ([9, 7, 7, 0, 1, 2, 3, 4, 5, 6, 7], [7, 9])])
def UseR_B26 : List Nat := [0, 0, 0, 4, 14, 0, 32, 126, 255, 511, 1023]
theorem UseR_tab26 : rtab .any (opsOf Try.f36 26) = UseR_T26 := by kernel_rfl
theorem UseR_bits26 : waitsOk UseR_T26.2 UseR_B26 = true := by kernel_rfl
def turnR : Nat → List S71 → Option (List S71)
  | 0, _ => none
  | _ + 1, [] => none
  | k + 1, x :: t => if goesB x = true ∧ x.f3 = false then some (x :: t) else turnR k (t ++ [⟨x.f0, x.f1, x.f2, false⟩])
theorem c_one71 {w : World} {g5 : Nat} (x : S71) (h : w.heap[g5]? = some (.cells #[.int .i64 x.f0, .int .i64 x.f1, .bool x.f2, .bool x.f3] 71 (0, 0))) : Kd.C k71 w (some ⟨g5, 0, none⟩) 1 [x] := by
  refine ⟨rfl, by decide, fun _ => ⟨_, rfl, fun j p hj => ?_⟩⟩
  rcases j with _ | j
  · simp only [List.getElem?_cons_zero, Option.some.injEq] at hj
    subst hj
    refine ⟨[.int .i64 x.f0, .int .i64 x.f1, .bool x.f2, .bool x.f3], rfl, k71_mk _ x, fun i u hi => ?_⟩
    rw [Nat.zero_mul, Nat.zero_add, add_plain]
    refine (blk_cell h i).trans ?_
    rw [← hi]
    simp
  · simp at hj
set_option maxHeartbeats 8000000 in
set_option maxRecDepth 100000 in
theorem UseR_turn (g : Nat) (P : Nat → Prop) (most : Int) (l : List S71) (b : Int) (w0 w : World) (hB : Below w0.heap.size w0 w) (h : RS w0.heap.size P w g most l) (hn : l.length < 1000) (hb : 0 ≤ b ∧ b < 96) (hix : ixR l b = -1) (hroom : most ≤ (l.length : Int)) (hcan : l.any goesB = true) (x1 : S71) (t1 : List S71) (hturn : turnR (2 * l.length + 1) l = some (x1 :: t1)) :
    Calls Try.prog 36 #[.pointer (some ⟨g, 0, none⟩), .int .i64 b] w fun e w' => e = .returned (.tuple #[.int .i64 x1.f0, .int .i64 0]) ∧ RS w0.heap.size (fun k => P k ∨ w.heap.size ≤ k) w' g most (t1 ++ [inR b]) ∧ Below w0.heap.size w0 w' ∧ Kept w w' P := by
  have HTU := Aside0.mk hturn
  clear hturn
  have d1 : decide (b < 0) = false := by simp; omega
  have d2 : decide (96 ≤ b) = false := by simp; omega
  have hf := at_rs b h hn
  rw [hix] at hf
  have HB := Aside0.mk hB
  have HS := Aside0.mk h
  obtain ⟨hgB, hgP, v, hg, hR⟩ := h
  obtain ⟨A, c, rfl, hcap, hC⟩ := Kd.R_reads hR
  have HG := Aside0.mk hg
  have HC := Aside0.mk hC
  have HN := Aside0.mk hn
  have c1 := (blk_cell hg 1).trans rfl
  have c0 := (blk_cell hg 0).trans rfl
  clear hg hR hC hB hn
  go_enter Try.func36, Try.ntmps36
  go_upto_region 11 with (first | (go_at_call 43; with_reducible refine hf.mono ?_; rintro e w4 ⟨rfl, hb4⟩; have c2 := pw_cell_below hb4 c1; have c3 := pw_cell_below hb4 c0) | ((with_reducible refine gate_dst (N := 35) rfl ?_); refine Kd.R_lit k71 (w0 := w) w.heap.size 71 ?hg (N := 35) ?hd (xs := ([] : List S71)) (inner := []) (ok := fun _ => True) (okp := fun _ => False) ?hr (Reps.none _ _) (fun _ h => h.elim) trivial hb4 hb4.size (by decide) ?_; (case hd => rfl); (case hg => rfl); (case hr => first | (go_simp; done) | (go_simp; rfl)); intro v1 w1 ho1 hb1 hg_ hnew_; clear hg_ hnew_; obtain ⟨A1, c1', e1⟩ := Kd.R_slice ho1; subst e1; have c4 := pw_cell_below hb1 ((blk_cell HG.out 1).trans rfl)) | ((with_reducible refine gate_builtin (b := .append) (xs := #[.tmp 35, .tmp 39]) rfl ?_); at_builtin; refine Kd.R_append_rows k71 (w0 := w) w.heap.size rfl (.tmp 35) (.tmp 39) 65 71 (.agg #[.int .i64 0, .int .i64 0, .bool false, .bool false]) 24 rfl Try.underlying65 info71 rfl (by decide) (by omega) _ ([] : List S71) l A l.length c (fun _ => True) (fun _ => False) rfl rfl ho1 (Kd.C_below HC.out hb1) (fun x cs h => by obtain rfl := k71_open h; exact k71_mkM _ _ _ x) (fun _ h => h.elim) (fun _ _ => trivial) hb1 hb1.size ?aL ?_; (case aL => have := HN.out; simp; omega); intro v2 w2 ho hb hg hat; clear hg hat; rw [List.nil_append] at ho; obtain ⟨A2, c2', e2⟩ := Kd.R_slice ho; subst e2; have HO2 := Aside0.mk ho; have HB2 := Aside0.mk hb; clear ho hb) | ((with_reducible refine gate_dst (N := 8) rfl ?_); refine box_event ?hg (N := 8) ?hd (cs := #[.int .i64 0, .int .i64 0, .bool false, .bool false]) (t := 71) ?hr ?_; (case hd => rfl); (case hg => rfl); (case hr => first | (go_simp; done) | (go_simp; rfl)); intro gi hgi w7 hbox hb7; have z0 : w7.cell? ⟨gi, 0, none⟩ = some (.int .i64 0) := (blk_cell hbox 0).trans rfl; have z1 : w7.cell? ⟨gi, 1, none⟩ = some (.int .i64 0) := (blk_cell hbox 1).trans rfl; have z2 : w7.cell? ⟨gi, 2, none⟩ = some (.bool false) := (blk_cell hbox 2).trans rfl; have z3 : w7.cell? ⟨gi, 3, none⟩ = some (.bool false) := (blk_cell hbox 3).trans rfl; have y0 := blk_frozen hbox 0; have y1 := blk_frozen hbox 1; have y2 := blk_frozen hbox 2; have y3 := blk_frozen hbox 3; have HX := Aside0.mk hbox; have HI := Aside0.mk hgi; have HB7 := Aside0.mk hb7; clear hbox hgi hb7))
  have hi8 : ((((w7.setCell ⟨gi, 0, none⟩ (.int .i64 b)).setCell ⟨gi, 1, none⟩ (.int .i64 0)).setCell ⟨gi, 2, none⟩ (.bool false)).setCell ⟨gi, 3, none⟩ (.bool true)).heap[gi]? = some (.cells #[.int .i64 b, .int .i64 0, .bool false, .bool true] 71 (0, 0)) := blk_put (blk_put (blk_put (blk_put HX.out 0 _ rfl) 1 _ rfl) 2 _ rfl) 3 _ rfl
  have hgi2 : w2.heap.size ≤ gi := Nat.le_of_eq HI.out.symm
  have hgiw : w.heap.size ≤ gi := Nat.le_trans HB2.out.size hgi2
  have hb28 : Below w2.heap.size w2 ((((w7.setCell ⟨gi, 0, none⟩ (.int .i64 b)).setCell ⟨gi, 1, none⟩ (.int .i64 0)).setCell ⟨gi, 2, none⟩ (.bool false)).setCell ⟨gi, 3, none⟩ (.bool true)) := (((HB7.out.setCell (p := ⟨gi, 0, none⟩) hgi2 _).setCell (p := ⟨gi, 1, none⟩) hgi2 _).setCell (p := ⟨gi, 2, none⟩) hgi2 _).setCell (p := ⟨gi, 3, none⟩) hgi2 _
  clear z0 z1 z2 z3 y0 y1 y2 y3 c2 c3 c4 c1 c0 HB7 HX HI
  generalize ((((w7.setCell ⟨gi, 0, none⟩ (.int .i64 b)).setCell ⟨gi, 1, none⟩ (.int .i64 0)).setCell ⟨gi, 2, none⟩ (.bool false)).setCell ⟨gi, 3, none⟩ (.bool true)) = w8 at *
  have hb8 : Below w.heap.size w w8 := below_step HB2.out hb28
  have ho8 : Kd.R k71 71 w8 w.heap.size (fun k => k ≠ gi) (.slice A2 l.length c2') l := Kd.R_mono (Kd.R_below (Kd.R_bound HO2.out) hb28) (fun k hk => by have := hk.2.2.1; omega)
  have c5 := pw_cell_below hb8 ((blk_cell HG.out 0).trans rfl)
  have HO8 := Aside0.mk ho8
  have HB8 := Aside0.mk hb8
  have HI8 := Aside0.mk hi8
  clear ho8 hb8 hb28 ho1 hb1 HO2 HB2 hi8
  have d3 : decide ((l.length : Int) < most) = false := by simp; omega
  have hC8 := (Kd.R_reads' HO8.out).2.2
  have HC8 := Aside0.mk hC8
  clear hC8
  go_wp2
  go_loopg [9, 10] l.length (fun kq v9 v10 w' => ∃ i : Nat, i + kq = l.length ∧ v9 = .bool ((l.take i).any goesB) ∧ v10 = .int .i64 (i : Int) ∧ Aside0 (Below w8.heap.size w8 w'))
  case atStart => exact ⟨0, by omega, by simp, rfl, ⟨Below.refl _ _⟩⟩
  case round =>
    obtain ⟨i, hi, rfl, rfl, hB1⟩ := hrel
    cases gk with
    | succ k1 =>
      have hlt : i < l.length := by omega
      have d4 : decide ((i : Int) < (l.length : Int)) = true := by simp; omega
      have p123 : 0 ≤ (i : Int) := by omega
      have q123 : (i : Int) < (l.length : Int) := by omega
      obtain ⟨ad, e, hx0, hx1, hx2, hx3⟩ := at_T71 (Kd.C_below HC8.out hB1.out) (i : Int) p123 q123
      cases e
      have hrd : rd_T71 l (i : Int) = l[i] := by simp [rd_T71, List.getD_eq_getElem?_getD, hlt]
      rw [hrd] at hx0 hx1 hx2 hx3
      obtain ⟨x, hx⟩ : ∃ x, l[i] = x := ⟨_, rfl⟩
      rw [hx] at hx0 hx1 hx2 hx3
      rw [Int.toNat_natCast] at hx0 hx1 hx2 hx3
      replace p123 := eq_true p123
      replace q123 := eq_true q123
      have htk : (l.take (i + 1)).any goesB = ((l.take i).any goesB || goesB x) := by
        rw [List.take_succ_eq_append_getElem hlt, List.any_append, hx]; simp
      have HTK := Aside0.mk htk
      have ew : Aside0 (wrap64 ((i : Int) + 1) = ((i + 1 : Nat) : Int)) := ⟨by have := HN.out; unfold wrap64; omega⟩
      clear htk
      cases hv : (l.take i).any goesB with
      | true =>
        rw [hv] at HTK
        go_wp2
        go_roundg k1
        case rel => exact ⟨i + 1, by omega, by rw [HTK.out]; rfl, by first | rfl | rw [ew.out], hB1⟩
        all_goals omega
      | false =>
        rw [hv] at HTK
        go_wp2_with (go_at_call 44; with_reducible refine (goes_calls x _).mono ?_; rintro e w9 ⟨rfl, hb9⟩; have HB9 := Aside0.mk hb9; clear hb9)
        go_roundg k1
        case rel => exact ⟨i + 1, by omega, by rw [HTK.out]; rfl, by first | rfl | rw [ew.out], ⟨below_step hB1.out HB9.out⟩⟩
        all_goals omega
    | zero =>
      obtain rfl : i = l.length := by omega
      have d4 : decide ((l.length : Int) < (l.length : Int)) = false := by simp
      rw [List.take_length]
      rw [hcan]
      go_wp2
      go_loopg [7] (2 * l.length + 1) (fun kq v7 w' => ∃ li : List S71, Aside0 (turnR kq li = some (x1 :: t1)) ∧ Aside0 (li.length = l.length) ∧ Aside0 (Kd.R k71 71 w' w.heap.size (fun k => k ≠ gi) v7 li) ∧ Aside0 (Below w.heap.size w w') ∧ Aside0 (w'.heap[gi]? = some (.cells #[.int .i64 b, .int .i64 0, .bool false, .bool true] 71 (0, 0))))
      case atStart => exact ⟨l, HTU, ⟨rfl⟩, ⟨Kd.R_below HO8.out hB1.out⟩, ⟨below_step HB8.out hB1.out⟩, ⟨blk_below HI8.out hB1.out⟩⟩
      case round =>
      clear HTU hB1 HI8 HO8 HB8 HC8
      obtain ⟨li, hTT, HLL, hR, hB1, hX⟩ := hrel
      have HLN : Aside0 (li.length < 1000) := ⟨by rw [HLL.out]; exact HN.out⟩
      rcases gk with _ | k1
      · exact absurd hTT.out (by simp [turnR])
      have hT := hTT.out
      clear hTT
      have hne0 : 0 < li.length := by rcases li with _ | ⟨z, zt⟩ <;> simp [turnR] at hT ⊢
      obtain ⟨gr, cap, hv, -, -, -⟩ := Kd.R_form hR.out hne0
      subst hv
      obtain ⟨x, hx⟩ : ∃ x, li[0] = x := ⟨_, rfl⟩
      have hli : li = x :: li.drop 1 := by rw [← hx]; exact (List.getElem_cons_drop hne0).symm
      have hcap := (Kd.R_reads' hR.out).2.1
      have hCl := (Kd.R_reads' hR.out).2.2
      have hq := (rs_cells hR.out 0 hne0).1
      rw [hx] at hq
      simp only [Nat.zero_mul, Nat.zero_add] at hq
      obtain ⟨q0, q1, q2, q3⟩ := hq
      rw [hli] at hT
      simp only [turnR] at hT
      have hdr : ∃ A9, A9 = (if cap = 1 then (some ⟨gr, 0, none⟩ : Option Addr) else some ⟨gr, 4, none⟩) ∧ Kd.C k71 wr A9 (li.length - 1) (li.drop 1) := by
        refine ⟨_, rfl, ?_⟩
        have h0 := Kd.C_drop hCl (show 1 ≤ li.length by omega) hcap
        have e0 : (if cap = 1 then (some (⟨gr, 0, none⟩ : Addr)) else Option.map (fun (x : Addr) => x.add (1 * k71.sz)) (some (⟨gr, 0, none⟩ : Addr))) = (if cap = 1 then (some ⟨gr, 0, none⟩ : Option Addr) else some ⟨gr, 4, none⟩) := by split <;> simp [add_plain, show k71.sz = 4 from rfl]
        rw [e0, List.length_drop] at h0
        exact h0
      obtain ⟨A9, hA9, hD⟩ := hdr
      have HD := Aside0.mk hD
      have HA9 := Aside0.mk hA9
      have p0 : ((0 : Int) < (li.length : Int)) = True := eq_true (by omega)
      have p1 : ((1 : Int) ≤ (li.length : Int)) = True := eq_true (by omega)
      have p2 : ((li.length : Int) ≤ (cap : Int)) = True := eq_true (by omega)
      have HLI := Aside0.mk hli
      have HTT := Aside0.mk hT
      clear hA9 hD hCl hli hT hx
      by_cases hgo : goesB x = true ∧ x.f3 = false
      · have hT := HTT.out
        rw [if_pos hgo] at hT
        obtain ⟨hg1, hg3⟩ := hgo
        have q3' : wr.cell? ⟨gr, 3, none⟩ = some (.bool false) := by rw [q3, hg3]
        have hg1' : goesB ⟨x.f0, x.f1, x.f2, false⟩ = true := hg1
        clear q3 HTT
        go_upto_region 26 with (go_at_call 44; with_reducible refine (goes_calls ⟨x.f0, x.f1, x.f2, false⟩ _).mono ?_; rw [hg1']; rintro e wb ⟨rfl, hbb⟩; have qb0 := pw_cell_below hbb q0; have qb3 := pw_cell_below hbb q3'; have HBb := Aside0.mk hbb; clear hbb)
        clear q0 q1 q2 q3' qb0 qb3 p0
        have Bw : Aside0 (Below w.heap.size w wb.drew) := ⟨below_drew (below_step hB1.out HBb.out)⟩
        have X : Aside0 (wb.drew.heap[gi]? = some (.cells #[.int .i64 b, .int .i64 0, .bool false, .bool true] 71 (0, 0))) := ⟨blk_drew (blk_below hX.out HBb.out)⟩
        have L : Aside0 (Kd.C k71 wb.drew A9 (li.length - 1) (li.drop 1)) := ⟨Kd.C_below HD.out (below_drew HBb.out)⟩
        refine start_ (n := 11) (S := fun w' => True) (ds := []) #[false, false, false, false, false, false, false, false, false, false, false] (by kernel_rfl) rfl rfl trivial (fun hHeld => ?_)
        refine with_tabW UseR_tab26 UseR_bits26 (fun HT_ HW_ => ?_)
        refine pure_ (i := 0) (N := some 99) (v := ?_) (a' := ?_) #[true, false, false, false, false, false, false, false, false, false, false] rfl rfl (by kernel_rfl) (fun _ _ _ h => h) (Or.inl ⟨by rfl, ?_⟩) ?_ ?_
        rotate_left
        · intro w'
          go_simp
          with_reducible rfl
        rotate_left
        · simp only [Act.put, List.setIfInBounds_toArray, List.set_cons_zero, List.set_cons_succ, i64_w, i32_w]
          rfl
        refine pure_ (i := 2) (N := some 101) (v := ?_) (a' := ?_) #[true, false, true, false, false, false, false, false, false, false, false] rfl rfl (by kernel_rfl) (fun _ _ _ h => h) (Or.inl ⟨by rfl, ?_⟩) ?_ ?_
        rotate_left
        · intro w'
          go_simp
          with_reducible rfl
        rotate_left
        · simp only [Act.put, List.setIfInBounds_toArray, List.set_cons_zero, List.set_cons_succ, i64_w, i32_w]
          rfl
        refine pure_ (i := 3) (N := some 102) (v := ?_) (a' := ?_) #[true, false, true, true, false, false, false, false, false, false, false] rfl rfl (by kernel_rfl) (fun _ _ _ h => h) (Or.inl ⟨by rfl, ?_⟩) ?_ ?_
        rotate_left
        · intro w'
          go_simp
          with_reducible rfl
        rotate_left
        · simp only [Act.put, List.setIfInBounds_toArray, List.set_cons_zero, List.set_cons_succ, i64_w, i32_w]
          rfl
        rw [← HA9.out]
        refine inv_at [1, 4, 5, 6, 7, 8, 9, 10] (fun a0_ fl_ a w' => ∃ (v0 : Value) (v3 : Value) (v5 : Value) (g5 : Nat) (v6 : Value), a = putSel a0_ fl_ [(1, 100, v0), (4, 103, v3), (5, 104, .agg #[.int .i64 b, .int .i64 0, .bool false, .bool true]), (6, 105, v5), (7, 106, v6), (8, 107, .pointer (some ⟨g, 0, none⟩)), (9, 108, .pointer (some ⟨g, 1, none⟩))] ∧ (fl_ 10 = false → Below w.heap.size w w') ∧ (fl_ 10 = false → w'.heap[gi]? = some (.cells #[.int .i64 b, .int .i64 0, .bool false, .bool true] 71 (0, 0))) ∧ (fl_ 4 = false → Kd.C k71 w' A9 (li.length - 1) (li.drop 1)) ∧ (fl_ 1 = true → fl_ 4 = false → Kd.R k71 71 w' w.heap.size (fun k => k ≠ gi) v0 []) ∧ (fl_ 4 = true → fl_ 7 = false → Kd.R k71 71 w' w.heap.size (fun k => k ≠ gi) v3 (li.drop 1)) ∧ (fl_ 6 = true → fl_ 7 = false → v5 = .slice (some ⟨g5, 0, none⟩) 1 1 ∧ w'.heap[g5]? = some (.cells #[.int .i64 b, .int .i64 0, .bool false, .bool true] 71 (0, 0))) ∧ (fl_ 1 = true → fl_ 6 = true → fl_ 4 = false → some g5 ≠ v0.ownBlock) ∧ (fl_ 4 = true → fl_ 6 = true → fl_ 7 = false → some g5 ≠ v3.ownBlock) ∧ (fl_ 7 = true → fl_ 10 = false → Kd.R k71 71 w' w.heap.size (fun k => k ≠ gi) v6 (li.drop 1 ++ [(inR b)])) ∧ (fl_ 10 = true → ∃ w9 v9, w' = w9.setCell ⟨g, 1, none⟩ v9 ∧ Below w.heap.size w w9 ∧ Kd.R k71 71 w9 w.heap.size (fun k => k ≠ gi) v9 (li.drop 1 ++ [inR b]))) HT_.out HW_.out (by kernel_rfl) (by kernel_rfl) ?_ ?_ ?_
        · exact ⟨.bool false, .bool false, .bool false, 0, .bool false, by simp only [putSel, Bool.false_eq_true, if_false], fun _ => Bw.out, fun _ => X.out, fun _ => L.out, fun h_ => absurd h_ (by decide), fun h_ => absurd h_ (by decide), fun h_ => absurd h_ (by decide), fun h_ => absurd h_ (by decide), fun h_ => absurd h_ (by decide), fun h_ => absurd h_ (by decide), fun h_ => absurd h_ (by decide)⟩
        · skip
          clear Bw L X
          refine steps_cons ?_ ?_
          · rintro fl_ a w' ⟨v0, v3, v5, g5, v6, ha, Q_Bw, Q_X, Q_L, Q_R0, Q_R3, Q_H5, Q_N05, Q_N35, Q_R6, Q_Fin⟩ hb_ hon hoff
            refine ⟨_, rfl, fun K hK => ?_⟩
            replace ha := Aside0.mk ha
            have Bw := Aside0.mk (Q_Bw (hoff 10 (by kernel_rfl)))
            have X := Aside0.mk (Q_X (hoff 10 (by kernel_rfl)))
            have L := Aside0.mk (Q_L (hoff 4 (by kernel_rfl)))
            refine Kd.R_lit_step k71 (w0 := w) w.heap.size 71 (by rfl) (N := 100) rfl (xs := ([] : List S71)) (inner := []) (ok := (fun k => k ≠ gi)) (okp := fun _ => False) (by first | (go_simp; done) | (go_simp; rfl)) (Reps.none _ _) (fun _ h => h.elim) ((fun (k : Nat) (hk : w'.heap.size ≤ k) => (show (fun k => k ≠ gi) k from fun e => by have := blk_lt X.out; omega)) w'.heap.size (Nat.le_refl _)) Bw.out Bw.out.size (by decide) ?_
            intro v1 w1 ho1 hb1 hg1 hn1
            have hbl : Below w'.heap.size w' w1 := ⟨hg1.os, hg1.tape, hg1.output, hg1.size, fun k hk => hg1.block k hk (by simp)⟩
            obtain ⟨A1, c1, e1⟩ := Kd.R_slice ho1
            subst e1
            refine hK.out _ _ ⟨(.slice A1 ([] : List S71).length c1), v3, v5, g5, v6, (by rw [ha.out]; exact putSel_upk 0 hb_ rfl rfl rfl), fun _ => hb1, fun _ => blk_below X.out hbl, fun _ => Kd.C_below L.out hbl, fun h0_ h1_ => ho1, fun h0_ _ => absurd ((hoff 4 (by kernel_rfl)).symm.trans h0_) (by decide), fun h0_ h1_ => ⟨(Q_H5 h0_ h1_).1, blk_below (Q_H5 h0_ h1_).2 hbl⟩, fun h0_ h1_ h2_ => fun e => by obtain ⟨q, hq, hl⟩ := hn1; have := blk_lt (Q_H5 h1_ (hoff 7 (by kernel_rfl))).2; rw [hq] at e; injection e; omega, fun h0_ _ _ => absurd ((hoff 4 (by kernel_rfl)).symm.trans h0_) (by decide), fun h0_ _ => absurd ((hoff 7 (by kernel_rfl)).symm.trans h0_) (by decide), fun h0_ => absurd ((hoff 10 (by kernel_rfl)).symm.trans h0_) (by decide)⟩
          refine steps_cons ?_ ?_
          · rintro fl_ a w' ⟨v0, v3, v5, g5, v6, ha, Q_Bw, Q_X, Q_L, Q_R0, Q_R3, Q_H5, Q_N05, Q_N35, Q_R6, Q_Fin⟩ hb_ hon hoff
            refine ⟨_, rfl, fun K hK => ?_⟩
            have e100 : a.tmps[100]? = some (v0) := by rw [ha]; exact putSel_on (e := (1, 100, v0)) 0 rfl rfl (hon 1 (by kernel_rfl)) rfl
            have e102 : a.tmps[102]? = some (.slice A9 (li.length - 1) (cap - 1)) := by rw [ha]; exact (putSel_off rfl).trans rfl
            replace ha := Aside0.mk ha
            have Bw := Aside0.mk (Q_Bw (hoff 10 (by kernel_rfl)))
            have X := Aside0.mk (Q_X (hoff 10 (by kernel_rfl)))
            have L := Aside0.mk (Q_L hb_)
            have R0 := Aside0.mk (Q_R0 (hon 1 (by kernel_rfl)) hb_)
            refine Kd.R_append_rows_step k71 (w0 := w) w.heap.size (by rfl) (.tmp 100) (.tmp 102) 65 71 (.agg #[.int .i64 0, .int .i64 0, .bool false, .bool false]) 24 rfl Try.underlying65 info71 rfl (by decide) (by omega) v0 ([] : List S71) (li.drop 1) A9 (li.length - 1) (cap - 1) (fun k => k ≠ gi) (fun _ => False) (eval_of e100) (eval_of e102) R0.out L.out (fun x cs h => by obtain rfl := k71_open h; exact k71_mkM _ _ _ x) (fun _ h => h.elim) (fun k hk => fun e => by have := blk_lt X.out; omega) Bw.out Bw.out.size (by have := HLN.out; simp; omega) ?_
            intro v1 w1 ho1 hb1 hg1 hat1
            rw [List.nil_append] at ho1
            have hne : ∀ k, some k ≠ v0.ownBlock → k < w'.heap.size → some k ≠ v1.ownBlock := fun k h1 h2 e => by
              rcases hat1 with h | ⟨q, h, hq⟩
              · exact h1 (e.trans h)
              · rw [h] at e; injection e; omega
            refine hK.out _ _ ⟨v0, v1, v5, g5, v6, (by rw [ha.out]; exact putSel_upk 1 hb_ rfl rfl rfl), fun _ => hb1, fun _ => (hg1.block _ (blk_lt X.out) (fun e => (R0.out.1 _ e.symm) rfl)).trans X.out, fun h0_ => absurd ((up_self fl_ 4).symm.trans h0_) (by decide), fun _ h1_ => absurd ((up_self fl_ 4).symm.trans h1_) (by decide), fun h0_ h1_ => ho1, fun h0_ h1_ => ⟨(Q_H5 h0_ h1_).1, (hg1.block _ (blk_lt (Q_H5 h0_ h1_).2) (Q_N05 (hon 1 (by kernel_rfl)) h0_ hb_)).trans (Q_H5 h0_ h1_).2⟩, fun _ _ h2_ => absurd ((up_self fl_ 4).symm.trans h2_) (by decide), fun h0_ h1_ h2_ => hne _ (Q_N05 (hon 1 (by kernel_rfl)) h1_ hb_) (blk_lt (Q_H5 h1_ h2_).2), fun h0_ _ => absurd ((hoff 7 (by kernel_rfl)).symm.trans h0_) (by decide), fun h0_ => absurd ((hoff 10 (by kernel_rfl)).symm.trans h0_) (by decide)⟩
          refine steps_cons ?_ ?_
          · rintro fl_ a w' ⟨v0, v3, v5, g5, v6, ha, Q_Bw, Q_X, Q_L, Q_R0, Q_R3, Q_H5, Q_N05, Q_N35, Q_R6, Q_Fin⟩ hb_ hon hoff
            refine ⟨_, rfl, fun K hK => ?_⟩
            have e8 : a.tmps[8]? = some (.pointer (some ⟨gi, 0, none⟩)) := by rw [ha]; exact (putSel_off rfl).trans rfl
            replace ha := Aside0.mk ha
            have Bw := Aside0.mk (Q_Bw (hoff 10 (by kernel_rfl)))
            have X := Aside0.mk (Q_X (hoff 10 (by kernel_rfl)))
            have q0 : w'.cell? ⟨gi, 0, none⟩ = some (.int .i64 b) := (blk_cell X.out 0).trans rfl
            have q1 : w'.cell? ⟨gi, 1, none⟩ = some (.int .i64 0) := (blk_cell X.out 1).trans rfl
            have q2 : w'.cell? ⟨gi, 2, none⟩ = some (.bool false) := (blk_cell X.out 2).trans rfl
            have q3 : w'.cell? ⟨gi, 3, none⟩ = some (.bool true) := (blk_cell X.out 3).trans rfl
            refine value_ (w1 := w') (v := .agg #[.int .i64 b, .int .i64 0, .bool false, .bool true]) (by rfl) rfl ?_ ?_
            · go_simp
              (try simp only [i64_w])
              try rfl
            refine hK.out _ _ ⟨v0, v3, v5, g5, v6, (by rw [ha.out]; exact putSel_upk 2 hb_ rfl rfl rfl), Q_Bw, Q_X, Q_L, Q_R0, Q_R3, fun h0_ _ => absurd ((hoff 6 (by kernel_rfl)).symm.trans h0_) (by decide), fun _ h1_ _ => absurd ((hoff 6 (by kernel_rfl)).symm.trans h1_) (by decide), fun _ h1_ _ => absurd ((hoff 6 (by kernel_rfl)).symm.trans h1_) (by decide), fun h0_ _ => absurd ((hoff 7 (by kernel_rfl)).symm.trans h0_) (by decide), fun h0_ => absurd ((hoff 10 (by kernel_rfl)).symm.trans h0_) (by decide)⟩
          refine steps_cons ?_ ?_
          · rintro fl_ a w' ⟨v0, v3, v5, g5, v6, ha, Q_Bw, Q_X, Q_L, Q_R0, Q_R3, Q_H5, Q_N05, Q_N35, Q_R6, Q_Fin⟩ hb_ hon hoff
            refine ⟨_, rfl, fun K hK => ?_⟩
            have e104 : a.tmps[104]? = some (.agg #[.int .i64 b, .int .i64 0, .bool false, .bool true]) := by rw [ha]; exact putSel_on (e := (5, 104, .agg #[.int .i64 b, .int .i64 0, .bool false, .bool true])) 2 rfl rfl (hon 5 (by kernel_rfl)) rfl
            replace ha := Aside0.mk ha
            have Bw := Aside0.mk (Q_Bw (hoff 10 (by kernel_rfl)))
            have X := Aside0.mk (Q_X (hoff 10 (by kernel_rfl)))
            refine event_step (v := .slice (some ⟨w'.heap.size, 0, none⟩) 1 1) (w1 := (w'.alloc (.cells #[.int .i64 b, .int .i64 0, .bool false, .bool true] 71))) (by rfl) (by first | (go_simp; done) | (go_simp; rfl)) ?_
            have hbl : Below w'.heap.size w' (w'.alloc (.cells #[.int .i64 b, .int .i64 0, .bool false, .bool true] 71)) := below_alloc (Below.refl _ _) _
            have hnew := blk_new w' (.cells #[.int .i64 b, .int .i64 0, .bool false, .bool true] 71)
            refine hK.out _ _ ⟨v0, v3, (.slice (some ⟨w'.heap.size, 0, none⟩) 1 1), w'.heap.size, v6, (by rw [ha.out]; exact putSel_upk 3 hb_ rfl rfl rfl), fun _ => below_alloc Bw.out _, fun _ => blk_below X.out hbl, fun h0_ => Kd.C_below (Q_L h0_) hbl, fun h0_ h1_ => Kd.R_below (Q_R0 h0_ h1_) hbl, fun h0_ h1_ => Kd.R_below (Q_R3 h0_ h1_) hbl, fun h0_ h1_ => ⟨rfl, hnew⟩, fun h0_ h1_ h2_ => fun e => Nat.lt_irrefl _ (Kd.R_lt (Q_R0 h0_ h2_) _ e.symm), fun h0_ h1_ h2_ => fun e => Nat.lt_irrefl _ (Kd.R_lt (Q_R3 h0_ h2_) _ e.symm), fun h0_ _ => absurd ((hoff 7 (by kernel_rfl)).symm.trans h0_) (by decide), fun h0_ => absurd ((hoff 10 (by kernel_rfl)).symm.trans h0_) (by decide)⟩
          refine steps_cons ?_ ?_
          · rintro fl_ a w' ⟨v0, v3, v5, g5, v6, ha, Q_Bw, Q_X, Q_L, Q_R0, Q_R3, Q_H5, Q_N05, Q_N35, Q_R6, Q_Fin⟩ hb_ hon hoff
            refine ⟨_, rfl, fun K hK => ?_⟩
            have e103 : a.tmps[103]? = some (v3) := by rw [ha]; exact putSel_on (e := (4, 103, v3)) 1 rfl rfl (hon 4 (by kernel_rfl)) rfl
            have e105 : a.tmps[105]? = some (v5) := by rw [ha]; exact putSel_on (e := (6, 105, v5)) 3 rfl rfl (hon 6 (by kernel_rfl)) rfl
            replace ha := Aside0.mk ha
            have Bw := Aside0.mk (Q_Bw (hoff 10 (by kernel_rfl)))
            have X := Aside0.mk (Q_X (hoff 10 (by kernel_rfl)))
            have R3 := Aside0.mk (Q_R3 (hon 4 (by kernel_rfl)) hb_)
            have H5 := Aside0.mk (Q_H5 (hon 6 (by kernel_rfl)) hb_)
            have N35 := Aside0.mk (Q_N35 (hon 4 (by kernel_rfl)) (hon 6 (by kernel_rfl)) hb_)
            have hC5 : Kd.C k71 w' (some ⟨g5, 0, none⟩) 1 [(inR b)] := c_one71 (inR b) H5.out.2
            refine Kd.R_append_rows_step k71 (w0 := w) w.heap.size (by rfl) (.tmp 103) (.tmp 105) 65 71 (.agg #[.int .i64 0, .int .i64 0, .bool false, .bool false]) 24 rfl Try.underlying65 info71 rfl (by decide) (by omega) v3 (li.drop 1) [(inR b)] (some ⟨g5, 0, none⟩) 1 1 (fun k => k ≠ gi) (fun _ => False) (eval_of e103) ((eval_of e105).trans H5.out.1) R3.out hC5 (fun x cs h => by obtain rfl := k71_open h; exact k71_mkM _ _ _ x) (fun _ h => h.elim) (fun k hk => fun e => by have := blk_lt X.out; omega) Bw.out Bw.out.size (by have := HLN.out; rw [List.length_drop]; omega) ?_
            intro v1 w1 ho1 hb1 hg1 hat1
            refine hK.out _ _ ⟨v0, v3, v5, g5, v1, (by rw [ha.out]; exact putSel_upk 4 hb_ rfl rfl rfl), fun _ => hb1, fun _ => (hg1.block _ (blk_lt X.out) (fun e => (R3.out.1 _ e.symm) rfl)).trans X.out, fun h0_ => absurd ((hon 4 (by kernel_rfl)).symm.trans h0_) (by decide), fun _ h1_ => absurd ((hon 4 (by kernel_rfl)).symm.trans h1_) (by decide), fun _ h1_ => absurd ((up_self fl_ 7).symm.trans h1_) (by decide), fun _ h1_ => absurd ((up_self fl_ 7).symm.trans h1_) (by decide), fun _ _ h2_ => absurd ((hon 4 (by kernel_rfl)).symm.trans h2_) (by decide), fun _ _ h2_ => absurd ((up_self fl_ 7).symm.trans h2_) (by decide), fun h0_ h1_ => ho1, fun h0_ => absurd ((hoff 10 (by kernel_rfl)).symm.trans h0_) (by decide)⟩
          refine steps_cons ?_ ?_
          · rintro fl_ a w' ⟨v0, v3, v5, g5, v6, ha, Q_Bw, Q_X, Q_L, Q_R0, Q_R3, Q_H5, Q_N05, Q_N35, Q_R6, Q_Fin⟩ hb_ hon hoff
            refine ⟨_, rfl, fun K hK => ?_⟩
            have e99 : a.tmps[99]? = some (.pointer (some ⟨g, 0, none⟩)) := by rw [ha]; exact (putSel_off rfl).trans rfl
            replace ha := Aside0.mk ha
            have Bw := Aside0.mk (Q_Bw (hoff 10 (by kernel_rfl)))
            have X := Aside0.mk (Q_X (hoff 10 (by kernel_rfl)))
            have R6 := Aside0.mk (Q_R6 (hon 7 (by kernel_rfl)) (hoff 10 (by kernel_rfl)))
            refine value_ (w1 := w') (v := .pointer (some ⟨g, 0, none⟩)) (by rfl) rfl ?_ ?_
            · go_simp
              (try simp only [i64_w])
              try rfl
            refine hK.out _ _ ⟨v0, v3, v5, g5, v6, (by rw [ha.out]; exact putSel_upk 5 hb_ rfl rfl rfl), Q_Bw, Q_X, fun h0_ => absurd ((hon 4 (by kernel_rfl)).symm.trans h0_) (by decide), fun _ h1_ => absurd ((hon 4 (by kernel_rfl)).symm.trans h1_) (by decide), fun _ h1_ => absurd ((hon 7 (by kernel_rfl)).symm.trans h1_) (by decide), fun _ h1_ => absurd ((hon 7 (by kernel_rfl)).symm.trans h1_) (by decide), fun _ _ h2_ => absurd ((hon 4 (by kernel_rfl)).symm.trans h2_) (by decide), fun _ _ h2_ => absurd ((hon 7 (by kernel_rfl)).symm.trans h2_) (by decide), Q_R6, fun h0_ => absurd ((hoff 10 (by kernel_rfl)).symm.trans h0_) (by decide)⟩
          refine steps_cons ?_ ?_
          · rintro fl_ a w' ⟨v0, v3, v5, g5, v6, ha, Q_Bw, Q_X, Q_L, Q_R0, Q_R3, Q_H5, Q_N05, Q_N35, Q_R6, Q_Fin⟩ hb_ hon hoff
            refine ⟨_, rfl, fun K hK => ?_⟩
            have e107 : a.tmps[107]? = some (.pointer (some ⟨g, 0, none⟩)) := by rw [ha]; exact putSel_on (e := (8, 107, .pointer (some ⟨g, 0, none⟩))) 5 rfl rfl (hon 8 (by kernel_rfl)) rfl
            replace ha := Aside0.mk ha
            have Bw := Aside0.mk (Q_Bw (hoff 10 (by kernel_rfl)))
            have X := Aside0.mk (Q_X (hoff 10 (by kernel_rfl)))
            have R6 := Aside0.mk (Q_R6 (hon 7 (by kernel_rfl)) (hoff 10 (by kernel_rfl)))
            refine value_ (w1 := w') (v := .pointer (some ⟨g, 1, none⟩)) (by rfl) rfl ?_ ?_
            · go_simp
              (try simp only [i64_w])
              try rfl
            refine hK.out _ _ ⟨v0, v3, v5, g5, v6, (by rw [ha.out]; exact putSel_upk 6 hb_ rfl rfl rfl), Q_Bw, Q_X, fun h0_ => absurd ((hon 4 (by kernel_rfl)).symm.trans h0_) (by decide), fun _ h1_ => absurd ((hon 4 (by kernel_rfl)).symm.trans h1_) (by decide), fun _ h1_ => absurd ((hon 7 (by kernel_rfl)).symm.trans h1_) (by decide), fun _ h1_ => absurd ((hon 7 (by kernel_rfl)).symm.trans h1_) (by decide), fun _ _ h2_ => absurd ((hon 4 (by kernel_rfl)).symm.trans h2_) (by decide), fun _ _ h2_ => absurd ((hon 7 (by kernel_rfl)).symm.trans h2_) (by decide), Q_R6, fun h0_ => absurd ((hoff 10 (by kernel_rfl)).symm.trans h0_) (by decide)⟩
          refine steps_cons ?_ ?_
          · rintro fl_ a w' ⟨v0, v3, v5, g5, v6, ha, Q_Bw, Q_X, Q_L, Q_R0, Q_R3, Q_H5, Q_N05, Q_N35, Q_R6, Q_Fin⟩ hb_ hon hoff
            refine ⟨_, rfl, fun K hK => ?_⟩
            have e108 : a.tmps[108]? = some (.pointer (some ⟨g, 1, none⟩)) := by rw [ha]; exact putSel_on (e := (9, 108, .pointer (some ⟨g, 1, none⟩))) 6 rfl rfl (hon 9 (by kernel_rfl)) rfl
            have e106 : a.tmps[106]? = some (v6) := by rw [ha]; exact putSel_on (e := (7, 106, v6)) 4 rfl rfl (hon 7 (by kernel_rfl)) rfl
            replace ha := Aside0.mk ha
            have Bw := Aside0.mk (Q_Bw hb_)
            have X := Aside0.mk (Q_X hb_)
            have R6 := Aside0.mk (Q_R6 (hon 7 (by kernel_rfl)) hb_)
            have hg9 := blk_below HG.out Bw.out
            have hs8 : w'.cell? ⟨g, 1, none⟩ = some (.slice A l.length c) := (blk_cell hg9 1).trans rfl
            have hf8 := blk_frozen hg9 1
            have ho6 := R6.out
            have hb6 := Bw.out
            obtain ⟨A6, c6, e6⟩ := Kd.R_slice ho6
            rw [show (li.drop 1 ++ [inR b]).length = li.length - 1 + 1 from by simp] at e6
            subst e6
            refine skip_ (w1 := ?_) (by rfl) rfl ?_ ?_
            rotate_left
            · go_simp
              rfl
            refine hK.out _ _ ⟨v0, v3, v5, g5, (.slice A6 (li.length - 1 + 1) c6), (by rw [ha.out]; exact putSel_none (v := undef) rfl), fun h0_ => absurd ((up_self fl_ 10).symm.trans h0_) (by decide), fun h0_ => absurd ((up_self fl_ 10).symm.trans h0_) (by decide), fun h0_ => absurd ((hon 4 (by kernel_rfl)).symm.trans h0_) (by decide), fun _ h1_ => absurd ((hon 4 (by kernel_rfl)).symm.trans h1_) (by decide), fun _ h1_ => absurd ((hon 7 (by kernel_rfl)).symm.trans h1_) (by decide), fun _ h1_ => absurd ((hon 7 (by kernel_rfl)).symm.trans h1_) (by decide), fun _ _ h2_ => absurd ((hon 4 (by kernel_rfl)).symm.trans h2_) (by decide), fun _ _ h2_ => absurd ((hon 7 (by kernel_rfl)).symm.trans h2_) (by decide), fun _ h1_ => absurd ((up_self fl_ 10).symm.trans h1_) (by decide), fun h0_ => ⟨_, _, rfl, hb6, ho6⟩⟩
          exact steps_nil
        · rintro fl_ a w' hall ⟨v0, v3, v5, g5, v6, ha, Q_Bw, Q_X, Q_L, Q_R0, Q_R3, Q_H5, Q_N05, Q_N35, Q_R6, Q_Fin⟩
          clear Bw L X
          have hb1_ := hall 1 (by kernel_rfl)
          have hb4_ := hall 4 (by kernel_rfl)
          have hb5_ := hall 5 (by kernel_rfl)
          have hb6_ := hall 6 (by kernel_rfl)
          have hb7_ := hall 7 (by kernel_rfl)
          have hb8_ := hall 8 (by kernel_rfl)
          have hb9_ := hall 9 (by kernel_rfl)
          have hb10_ := hall 10 (by kernel_rfl)
          subst ha
          simp only [putSel, hb1_, hb4_, hb5_, hb6_, hb7_, hb8_, hb9_, hb10_, if_true, Act.put, List.setIfInBounds_toArray, List.set_cons_zero, List.set_cons_succ]
          clear Q_Bw
          clear Q_X
          clear Q_L
          clear Q_R0
          clear Q_R3
          clear Q_H5
          clear Q_N05
          clear Q_N35
          clear Q_R6
          have Fin := Aside0.mk (Q_Fin hb10_)
          clear Q_Fin
          clear hall hb1_ hb4_ hb5_ hb6_ hb7_ hb8_ hb9_ hb10_
          obtain ⟨w9, v9, e9, hb9, ho9⟩ := Fin.out
          subst e9
          go_wp2
          go_ret2
          have hr := rs_new HB.out hgB hgP HG.out hb9 (Kd.R_mono ho9 (fun _ _ => trivial))
          injection hT with hT
          injection hT with hx1 ht1
          subst hx1
          subst ht1
          exact ⟨rfl, hr⟩
      · have hT := HTT.out
        rw [if_neg hgo] at hT
        have HT1 := Aside0.mk hT
        clear HTT hT
        have hcc : goesB x = false ∨ (goesB x = true ∧ x.f3 = true) := by
          rcases hv : goesB x with _ | _
          · exact .inl rfl
          · rcases hv2 : x.f3 with _ | _
            · exact absurd ⟨hv, hv2⟩ hgo
            · exact .inr ⟨rfl, rfl⟩
        clear hgo
        rcases hcc with hcg | ⟨hcg, hf3⟩
        · skip
          go_upto_region 24 with (first | (go_at_call 44; with_reducible refine (goes_calls ⟨x.f0, x.f1, x.f2, x.f3⟩ _).mono ?_; rw [hcg]; rintro e wb ⟨rfl, hbb⟩; replace q0 := pw_cell_below hbb q0; replace q1 := pw_cell_below hbb q1; replace q2 := pw_cell_below hbb q2; replace q3 := pw_cell_below hbb q3; have HBb := Aside0.mk hbb; clear hbb) | ((with_reducible refine gate_dst (N := 11) rfl ?_); refine box_event ?hg (N := 11) ?hd (cs := #[.int .i64 0, .int .i64 0, .bool false, .bool false]) (t := 71) ?hr ?_; (case hd => rfl); (case hg => rfl); (case hr => first | (go_simp; done) | (go_simp; rfl)); intro gh hgh wa hbox hba; have z0 : wa.cell? ⟨gh, 0, none⟩ = some (.int .i64 0) := (blk_cell hbox 0).trans rfl; have z1 : wa.cell? ⟨gh, 1, none⟩ = some (.int .i64 0) := (blk_cell hbox 1).trans rfl; have z2 : wa.cell? ⟨gh, 2, none⟩ = some (.bool false) := (blk_cell hbox 2).trans rfl; have z3 : wa.cell? ⟨gh, 3, none⟩ = some (.bool false) := (blk_cell hbox 3).trans rfl; have y0 := blk_frozen hbox 0; have y1 := blk_frozen hbox 1; have y2 := blk_frozen hbox 2; have y3 := blk_frozen hbox 3; have HXa := Aside0.mk hbox; have HIa := Aside0.mk hgh; have HBa := Aside0.mk hba; clear hbox hgh hba))
          have hgh2 : wb.heap.size ≤ gh := Nat.le_of_eq HIa.out.symm
          have hh8 : (((((wa.setCell ⟨gh, 0, none⟩ (.int .i64 x.f0)).setCell ⟨gh, 1, none⟩ (.int .i64 x.f1)).setCell ⟨gh, 2, none⟩ (.bool x.f2)).setCell ⟨gh, 3, none⟩ (.bool x.f3)).setCell ⟨gh, 3, none⟩ (.bool false)).heap[gh]? = some (.cells #[.int .i64 x.f0, .int .i64 x.f1, .bool x.f2, .bool false] 71 (0, 0)) := blk_put (blk_put (blk_put (blk_put (blk_put HXa.out 0 _ rfl) 1 _ rfl) 2 _ rfl) 3 _ rfl) 3 _ rfl
          have hbh : Below wb.heap.size wb (((((wa.setCell ⟨gh, 0, none⟩ (.int .i64 x.f0)).setCell ⟨gh, 1, none⟩ (.int .i64 x.f1)).setCell ⟨gh, 2, none⟩ (.bool x.f2)).setCell ⟨gh, 3, none⟩ (.bool x.f3)).setCell ⟨gh, 3, none⟩ (.bool false)) := ((((HBa.out.setCell (p := ⟨gh, 0, none⟩) hgh2 _).setCell (p := ⟨gh, 1, none⟩) hgh2 _).setCell (p := ⟨gh, 2, none⟩) hgh2 _).setCell (p := ⟨gh, 3, none⟩) hgh2 _).setCell (p := ⟨gh, 3, none⟩) hgh2 _
          clear z0 z1 z2 z3 y0 y1 y2 y3 q0 q1 q2 q3 HXa HBa p0
          generalize (((((wa.setCell ⟨gh, 0, none⟩ (.int .i64 x.f0)).setCell ⟨gh, 1, none⟩ (.int .i64 x.f1)).setCell ⟨gh, 2, none⟩ (.bool x.f2)).setCell ⟨gh, 3, none⟩ (.bool x.f3)).setCell ⟨gh, 3, none⟩ (.bool false)) = wc at *
          have Bw : Aside0 (Below w.heap.size w wc.drew) := ⟨below_drew (below_step (below_step hB1.out HBb.out) hbh)⟩
          have X : Aside0 (wc.drew.heap[gi]? = some (.cells #[.int .i64 b, .int .i64 0, .bool false, .bool true] 71 (0, 0))) := ⟨blk_drew (blk_below (blk_below hX.out HBb.out) hbh)⟩
          have Hh : Aside0 (wc.drew.heap[gh]? = some (.cells #[.int .i64 x.f0, .int .i64 x.f1, .bool x.f2, .bool false] 71 (0, 0))) := ⟨blk_drew hh8⟩
          have L : Aside0 (Kd.C k71 wc.drew A9 (li.length - 1) (li.drop 1)) := ⟨Kd.C_below (Kd.C_below HD.out HBb.out) (below_drew hbh)⟩
          clear hh8 hbh
          refine start_ (n := 8) (S := fun w' => True) (ds := []) #[false, false, false, false, false, false, false, false] (by kernel_rfl) rfl rfl trivial (fun hHeld => ?_)
          refine with_tabW UseR_tab24 UseR_bits24 (fun HT_ HW_ => ?_)
          refine pure_ (i := 1) (N := some 89) (v := ?_) (a' := ?_) #[false, true, false, false, false, false, false, false] rfl rfl (by kernel_rfl) (fun _ _ _ h => h) (Or.inl ⟨by rfl, ?_⟩) ?_ ?_
          rotate_left
          · intro w'
            go_simp
            with_reducible rfl
          rotate_left
          · simp only [Act.put, List.setIfInBounds_toArray, List.set_cons_zero, List.set_cons_succ, i64_w, i32_w]
            rfl
          refine pure_ (i := 2) (N := some 90) (v := ?_) (a' := ?_) #[false, true, true, false, false, false, false, false] rfl rfl (by kernel_rfl) (fun _ _ _ h => h) (Or.inl ⟨by rfl, ?_⟩) ?_ ?_
          rotate_left
          · intro w'
            go_simp
            with_reducible rfl
          rotate_left
          · simp only [Act.put, List.setIfInBounds_toArray, List.set_cons_zero, List.set_cons_succ, i64_w, i32_w]
            rfl
          rw [← HA9.out]
          refine inv_at [0, 3, 4, 5, 6, 7] (fun a0_ fl_ a w' => ∃ (v0 : Value) (v3 : Value) (v5 : Value) (g5 : Nat) (v6 : Value) (m7_ : Value), a = putSel a0_ fl_ [(0, 88, v0), (3, 91, v3), (4, 92, .agg #[.int .i64 x.f0, .int .i64 x.f1, .bool x.f2, .bool false]), (5, 93, v5), (6, 94, v6), (7, 7, m7_)] ∧ (Below w.heap.size w w') ∧ (w'.heap[gi]? = some (.cells #[.int .i64 b, .int .i64 0, .bool false, .bool true] 71 (0, 0))) ∧ (w'.heap[gh]? = some (.cells #[.int .i64 x.f0, .int .i64 x.f1, .bool x.f2, .bool false] 71 (0, 0))) ∧ (fl_ 3 = false → Kd.C k71 w' A9 (li.length - 1) (li.drop 1)) ∧ (fl_ 0 = true → fl_ 3 = false → Kd.R k71 71 w' w.heap.size (fun k => k ≠ gi ∧ k ≠ gh) v0 []) ∧ (fl_ 3 = true → fl_ 6 = false → Kd.R k71 71 w' w.heap.size (fun k => k ≠ gi ∧ k ≠ gh) v3 (li.drop 1)) ∧ (fl_ 5 = true → fl_ 6 = false → v5 = .slice (some ⟨g5, 0, none⟩) 1 1 ∧ w'.heap[g5]? = some (.cells #[.int .i64 x.f0, .int .i64 x.f1, .bool x.f2, .bool false] 71 (0, 0))) ∧ (fl_ 0 = true → fl_ 5 = true → fl_ 3 = false → some g5 ≠ v0.ownBlock) ∧ (fl_ 3 = true → fl_ 5 = true → fl_ 6 = false → some g5 ≠ v3.ownBlock) ∧ (fl_ 6 = true → Kd.R k71 71 w' w.heap.size (fun k => k ≠ gi ∧ k ≠ gh) v6 (li.drop 1 ++ [(⟨x.f0, x.f1, x.f2, false⟩ : S71)])) ∧ (fl_ 7 = true → (m7_ : Value) = v6)) HT_.out HW_.out (by kernel_rfl) (by kernel_rfl) ?_ ?_ ?_
          · exact ⟨.bool false, .bool false, .bool false, 0, .bool false, .bool false, by simp only [putSel, Bool.false_eq_true, if_false], Bw.out, X.out, Hh.out, fun _ => L.out, fun h_ => absurd h_ (by decide), fun h_ => absurd h_ (by decide), fun h_ => absurd h_ (by decide), fun h_ => absurd h_ (by decide), fun h_ => absurd h_ (by decide), fun h_ => absurd h_ (by decide), fun h_ => absurd h_ (by decide)⟩
          · skip
            clear Bw Hh L X
            refine steps_cons ?_ ?_
            · rintro fl_ a w' ⟨v0, v3, v5, g5, v6, m7_, ha, Q_Bw, Q_X, Q_Hh, Q_L, Q_R0, Q_R3, Q_H5, Q_N05, Q_N35, Q_R6, Q_X7_⟩ hb_ hon hoff
              refine ⟨_, rfl, fun K hK => ?_⟩
              replace ha := Aside0.mk ha
              have Bw := Aside0.mk Q_Bw
              have X := Aside0.mk Q_X
              have Hh := Aside0.mk Q_Hh
              have L := Aside0.mk (Q_L (hoff 3 (by kernel_rfl)))
              refine Kd.R_lit_step k71 (w0 := w) w.heap.size 71 (by rfl) (N := 88) rfl (xs := ([] : List S71)) (inner := []) (ok := (fun k => k ≠ gi ∧ k ≠ gh)) (okp := fun _ => False) (by first | (go_simp; done) | (go_simp; rfl)) (Reps.none _ _) (fun _ h => h.elim) ((fun (k : Nat) (hk : w'.heap.size ≤ k) => (show (fun k => k ≠ gi ∧ k ≠ gh) k from ⟨fun e => by have := blk_lt X.out; omega, fun e => by have := blk_lt Hh.out; omega⟩)) w'.heap.size (Nat.le_refl _)) Bw.out Bw.out.size (by decide) ?_
              intro v1 w1 ho1 hb1 hg1 hn1
              have hbl : Below w'.heap.size w' w1 := ⟨hg1.os, hg1.tape, hg1.output, hg1.size, fun k hk => hg1.block k hk (by simp)⟩
              obtain ⟨A1, c1, e1⟩ := Kd.R_slice ho1
              subst e1
              refine hK.out _ _ ⟨(.slice A1 ([] : List S71).length c1), v3, v5, g5, v6, m7_, (by rw [ha.out]; exact putSel_upk 0 hb_ rfl rfl rfl), hb1, blk_below X.out hbl, blk_below Hh.out hbl, fun _ => Kd.C_below L.out hbl, fun h0_ h1_ => ho1, fun h0_ _ => absurd ((hoff 3 (by kernel_rfl)).symm.trans h0_) (by decide), fun h0_ h1_ => ⟨(Q_H5 h0_ h1_).1, blk_below (Q_H5 h0_ h1_).2 hbl⟩, fun h0_ h1_ h2_ => fun e => by obtain ⟨q, hq, hl⟩ := hn1; have := blk_lt (Q_H5 h1_ (hoff 6 (by kernel_rfl))).2; rw [hq] at e; injection e; omega, fun h0_ _ _ => absurd ((hoff 3 (by kernel_rfl)).symm.trans h0_) (by decide), fun h0_ => absurd ((hoff 6 (by kernel_rfl)).symm.trans h0_) (by decide), fun h0_ => absurd ((hoff 7 (by kernel_rfl)).symm.trans h0_) (by decide)⟩
            refine steps_cons ?_ ?_
            · rintro fl_ a w' ⟨v0, v3, v5, g5, v6, m7_, ha, Q_Bw, Q_X, Q_Hh, Q_L, Q_R0, Q_R3, Q_H5, Q_N05, Q_N35, Q_R6, Q_X7_⟩ hb_ hon hoff
              refine ⟨_, rfl, fun K hK => ?_⟩
              have e88 : a.tmps[88]? = some (v0) := by rw [ha]; exact putSel_on (e := (0, 88, v0)) 0 rfl rfl (hon 0 (by kernel_rfl)) rfl
              have e90 : a.tmps[90]? = some (.slice A9 (li.length - 1) (cap - 1)) := by rw [ha]; exact (putSel_off rfl).trans rfl
              replace ha := Aside0.mk ha
              have Bw := Aside0.mk Q_Bw
              have X := Aside0.mk Q_X
              have Hh := Aside0.mk Q_Hh
              have L := Aside0.mk (Q_L hb_)
              have R0 := Aside0.mk (Q_R0 (hon 0 (by kernel_rfl)) hb_)
              refine Kd.R_append_rows_step k71 (w0 := w) w.heap.size (by rfl) (.tmp 88) (.tmp 90) 65 71 (.agg #[.int .i64 0, .int .i64 0, .bool false, .bool false]) 24 rfl Try.underlying65 info71 rfl (by decide) (by omega) v0 ([] : List S71) (li.drop 1) A9 (li.length - 1) (cap - 1) (fun k => k ≠ gi ∧ k ≠ gh) (fun _ => False) (eval_of e88) (eval_of e90) R0.out L.out (fun x cs h => by obtain rfl := k71_open h; exact k71_mkM _ _ _ x) (fun _ h => h.elim) (fun k hk => ⟨fun e => by have := blk_lt X.out; omega, fun e => by have := blk_lt Hh.out; omega⟩) Bw.out Bw.out.size (by have := HLN.out; simp; omega) ?_
              intro v1 w1 ho1 hb1 hg1 hat1
              rw [List.nil_append] at ho1
              have hne : ∀ k, some k ≠ v0.ownBlock → k < w'.heap.size → some k ≠ v1.ownBlock := fun k h1 h2 e => by
                rcases hat1 with h | ⟨q, h, hq⟩
                · exact h1 (e.trans h)
                · rw [h] at e; injection e; omega
              refine hK.out _ _ ⟨v0, v1, v5, g5, v6, m7_, (by rw [ha.out]; exact putSel_upk 1 hb_ rfl rfl rfl), hb1, (hg1.block _ (blk_lt X.out) (fun e => (R0.out.1 _ e.symm).1 rfl)).trans X.out, (hg1.block _ (blk_lt Hh.out) (fun e => (R0.out.1 _ e.symm).2 rfl)).trans Hh.out, fun h0_ => absurd ((up_self fl_ 3).symm.trans h0_) (by decide), fun _ h1_ => absurd ((up_self fl_ 3).symm.trans h1_) (by decide), fun h0_ h1_ => ho1, fun h0_ h1_ => ⟨(Q_H5 h0_ h1_).1, (hg1.block _ (blk_lt (Q_H5 h0_ h1_).2) (Q_N05 (hon 0 (by kernel_rfl)) h0_ hb_)).trans (Q_H5 h0_ h1_).2⟩, fun _ _ h2_ => absurd ((up_self fl_ 3).symm.trans h2_) (by decide), fun h0_ h1_ h2_ => hne _ (Q_N05 (hon 0 (by kernel_rfl)) h1_ hb_) (blk_lt (Q_H5 h1_ h2_).2), fun h0_ => absurd ((hoff 6 (by kernel_rfl)).symm.trans h0_) (by decide), fun h0_ => absurd ((hoff 7 (by kernel_rfl)).symm.trans h0_) (by decide)⟩
            refine steps_cons ?_ ?_
            · rintro fl_ a w' ⟨v0, v3, v5, g5, v6, m7_, ha, Q_Bw, Q_X, Q_Hh, Q_L, Q_R0, Q_R3, Q_H5, Q_N05, Q_N35, Q_R6, Q_X7_⟩ hb_ hon hoff
              refine ⟨_, rfl, fun K hK => ?_⟩
              have e11 : a.tmps[11]? = some (.pointer (some ⟨gh, 0, none⟩)) := by rw [ha]; exact (putSel_off rfl).trans rfl
              replace ha := Aside0.mk ha
              have Bw := Aside0.mk Q_Bw
              have X := Aside0.mk Q_X
              have Hh := Aside0.mk Q_Hh
              have q0 : w'.cell? ⟨gh, 0, none⟩ = some (.int .i64 x.f0) := (blk_cell Hh.out 0).trans rfl
              have q1 : w'.cell? ⟨gh, 1, none⟩ = some (.int .i64 x.f1) := (blk_cell Hh.out 1).trans rfl
              have q2 : w'.cell? ⟨gh, 2, none⟩ = some (.bool x.f2) := (blk_cell Hh.out 2).trans rfl
              have q3 : w'.cell? ⟨gh, 3, none⟩ = some (.bool false) := (blk_cell Hh.out 3).trans rfl
              refine value_ (w1 := w') (v := .agg #[.int .i64 x.f0, .int .i64 x.f1, .bool x.f2, .bool false]) (by rfl) rfl ?_ ?_
              · go_simp
                (try simp only [i64_w])
                try rfl
              refine hK.out _ _ ⟨v0, v3, v5, g5, v6, m7_, (by rw [ha.out]; exact putSel_upk 2 hb_ rfl rfl rfl), Q_Bw, Q_X, Q_Hh, Q_L, Q_R0, Q_R3, fun h0_ _ => absurd ((hoff 5 (by kernel_rfl)).symm.trans h0_) (by decide), fun _ h1_ _ => absurd ((hoff 5 (by kernel_rfl)).symm.trans h1_) (by decide), fun _ h1_ _ => absurd ((hoff 5 (by kernel_rfl)).symm.trans h1_) (by decide), fun h0_ => absurd ((hoff 6 (by kernel_rfl)).symm.trans h0_) (by decide), fun h0_ => absurd ((hoff 7 (by kernel_rfl)).symm.trans h0_) (by decide)⟩
            refine steps_cons ?_ ?_
            · rintro fl_ a w' ⟨v0, v3, v5, g5, v6, m7_, ha, Q_Bw, Q_X, Q_Hh, Q_L, Q_R0, Q_R3, Q_H5, Q_N05, Q_N35, Q_R6, Q_X7_⟩ hb_ hon hoff
              refine ⟨_, rfl, fun K hK => ?_⟩
              have e92 : a.tmps[92]? = some (.agg #[.int .i64 x.f0, .int .i64 x.f1, .bool x.f2, .bool false]) := by rw [ha]; exact putSel_on (e := (4, 92, .agg #[.int .i64 x.f0, .int .i64 x.f1, .bool x.f2, .bool false])) 2 rfl rfl (hon 4 (by kernel_rfl)) rfl
              replace ha := Aside0.mk ha
              have Bw := Aside0.mk Q_Bw
              have X := Aside0.mk Q_X
              have Hh := Aside0.mk Q_Hh
              refine event_step (v := .slice (some ⟨w'.heap.size, 0, none⟩) 1 1) (w1 := (w'.alloc (.cells #[.int .i64 x.f0, .int .i64 x.f1, .bool x.f2, .bool false] 71))) (by rfl) (by first | (go_simp; done) | (go_simp; rfl)) ?_
              have hbl : Below w'.heap.size w' (w'.alloc (.cells #[.int .i64 x.f0, .int .i64 x.f1, .bool x.f2, .bool false] 71)) := below_alloc (Below.refl _ _) _
              have hnew := blk_new w' (.cells #[.int .i64 x.f0, .int .i64 x.f1, .bool x.f2, .bool false] 71)
              refine hK.out _ _ ⟨v0, v3, (.slice (some ⟨w'.heap.size, 0, none⟩) 1 1), w'.heap.size, v6, m7_, (by rw [ha.out]; exact putSel_upk 3 hb_ rfl rfl rfl), below_alloc Bw.out _, blk_below X.out hbl, blk_below Hh.out hbl, fun h0_ => Kd.C_below (Q_L h0_) hbl, fun h0_ h1_ => Kd.R_below (Q_R0 h0_ h1_) hbl, fun h0_ h1_ => Kd.R_below (Q_R3 h0_ h1_) hbl, fun h0_ h1_ => ⟨rfl, hnew⟩, fun h0_ h1_ h2_ => fun e => Nat.lt_irrefl _ (Kd.R_lt (Q_R0 h0_ h2_) _ e.symm), fun h0_ h1_ h2_ => fun e => Nat.lt_irrefl _ (Kd.R_lt (Q_R3 h0_ h2_) _ e.symm), fun h0_ => absurd ((hoff 6 (by kernel_rfl)).symm.trans h0_) (by decide), fun h0_ => absurd ((hoff 7 (by kernel_rfl)).symm.trans h0_) (by decide)⟩
            refine steps_cons ?_ ?_
            · rintro fl_ a w' ⟨v0, v3, v5, g5, v6, m7_, ha, Q_Bw, Q_X, Q_Hh, Q_L, Q_R0, Q_R3, Q_H5, Q_N05, Q_N35, Q_R6, Q_X7_⟩ hb_ hon hoff
              refine ⟨_, rfl, fun K hK => ?_⟩
              have e91 : a.tmps[91]? = some (v3) := by rw [ha]; exact putSel_on (e := (3, 91, v3)) 1 rfl rfl (hon 3 (by kernel_rfl)) rfl
              have e93 : a.tmps[93]? = some (v5) := by rw [ha]; exact putSel_on (e := (5, 93, v5)) 3 rfl rfl (hon 5 (by kernel_rfl)) rfl
              replace ha := Aside0.mk ha
              have Bw := Aside0.mk Q_Bw
              have X := Aside0.mk Q_X
              have Hh := Aside0.mk Q_Hh
              have R3 := Aside0.mk (Q_R3 (hon 3 (by kernel_rfl)) hb_)
              have H5 := Aside0.mk (Q_H5 (hon 5 (by kernel_rfl)) hb_)
              have N35 := Aside0.mk (Q_N35 (hon 3 (by kernel_rfl)) (hon 5 (by kernel_rfl)) hb_)
              have hC5 : Kd.C k71 w' (some ⟨g5, 0, none⟩) 1 [(⟨x.f0, x.f1, x.f2, false⟩ : S71)] := c_one71 (⟨x.f0, x.f1, x.f2, false⟩ : S71) H5.out.2
              refine Kd.R_append_rows_step k71 (w0 := w) w.heap.size (by rfl) (.tmp 91) (.tmp 93) 65 71 (.agg #[.int .i64 0, .int .i64 0, .bool false, .bool false]) 24 rfl Try.underlying65 info71 rfl (by decide) (by omega) v3 (li.drop 1) [(⟨x.f0, x.f1, x.f2, false⟩ : S71)] (some ⟨g5, 0, none⟩) 1 1 (fun k => k ≠ gi ∧ k ≠ gh) (fun _ => False) (eval_of e91) ((eval_of e93).trans H5.out.1) R3.out hC5 (fun x cs h => by obtain rfl := k71_open h; exact k71_mkM _ _ _ x) (fun _ h => h.elim) (fun k hk => ⟨fun e => by have := blk_lt X.out; omega, fun e => by have := blk_lt Hh.out; omega⟩) Bw.out Bw.out.size (by have := HLN.out; rw [List.length_drop]; omega) ?_
              intro v1 w1 ho1 hb1 hg1 hat1
              refine hK.out _ _ ⟨v0, v3, v5, g5, v1, m7_, (by rw [ha.out]; exact putSel_upk 4 hb_ rfl rfl rfl), hb1, (hg1.block _ (blk_lt X.out) (fun e => (R3.out.1 _ e.symm).1 rfl)).trans X.out, (hg1.block _ (blk_lt Hh.out) (fun e => (R3.out.1 _ e.symm).2 rfl)).trans Hh.out, fun h0_ => absurd ((hon 3 (by kernel_rfl)).symm.trans h0_) (by decide), fun _ h1_ => absurd ((hon 3 (by kernel_rfl)).symm.trans h1_) (by decide), fun _ h1_ => absurd ((up_self fl_ 6).symm.trans h1_) (by decide), fun _ h1_ => absurd ((up_self fl_ 6).symm.trans h1_) (by decide), fun _ _ h2_ => absurd ((hon 3 (by kernel_rfl)).symm.trans h2_) (by decide), fun _ _ h2_ => absurd ((up_self fl_ 6).symm.trans h2_) (by decide), fun h0_ => ho1, fun h0_ => absurd ((hoff 7 (by kernel_rfl)).symm.trans h0_) (by decide)⟩
            refine steps_cons ?_ ?_
            · rintro fl_ a w' ⟨v0, v3, v5, g5, v6, m7_, ha, Q_Bw, Q_X, Q_Hh, Q_L, Q_R0, Q_R3, Q_H5, Q_N05, Q_N35, Q_R6, Q_X7_⟩ hb_ hon hoff
              refine ⟨_, rfl, fun K hK => ?_⟩
              have e94 : a.tmps[94]? = some (v6) := by rw [ha]; exact putSel_on (e := (6, 94, v6)) 4 rfl rfl (hon 6 (by kernel_rfl)) rfl
              replace ha := Aside0.mk ha
              have Bw := Aside0.mk Q_Bw
              have X := Aside0.mk Q_X
              have Hh := Aside0.mk Q_Hh
              have R6 := Aside0.mk (Q_R6 (hon 6 (by kernel_rfl)))
              refine value_ (w1 := w') (v := v6) (by rfl) rfl ?_ ?_
              · go_simp
                (try simp only [i64_w])
                try rfl
              refine hK.out _ _ ⟨v0, v3, v5, g5, v6, (v6), (by rw [ha.out]; exact putSel_upk 5 hb_ rfl rfl rfl), Q_Bw, Q_X, Q_Hh, fun h0_ => absurd ((hon 3 (by kernel_rfl)).symm.trans h0_) (by decide), fun _ h1_ => absurd ((hon 3 (by kernel_rfl)).symm.trans h1_) (by decide), fun _ h1_ => absurd ((hon 6 (by kernel_rfl)).symm.trans h1_) (by decide), fun _ h1_ => absurd ((hon 6 (by kernel_rfl)).symm.trans h1_) (by decide), fun _ _ h2_ => absurd ((hon 3 (by kernel_rfl)).symm.trans h2_) (by decide), fun _ _ h2_ => absurd ((hon 6 (by kernel_rfl)).symm.trans h2_) (by decide), Q_R6, fun _ => rfl⟩
            exact steps_nil
          · rintro fl_ a w' hall ⟨v0, v3, v5, g5, v6, m7_, ha, Q_Bw, Q_X, Q_Hh, Q_L, Q_R0, Q_R3, Q_H5, Q_N05, Q_N35, Q_R6, Q_X7_⟩
            clear Bw Hh L X
            have hb0_ := hall 0 (by kernel_rfl)
            have hb3_ := hall 3 (by kernel_rfl)
            have hb4_ := hall 4 (by kernel_rfl)
            have hb5_ := hall 5 (by kernel_rfl)
            have hb6_ := hall 6 (by kernel_rfl)
            have hb7_ := hall 7 (by kernel_rfl)
            subst ha
            obtain rfl := Q_X7_ hb7_
            simp only [putSel, hb0_, hb3_, hb4_, hb5_, hb6_, hb7_, if_true, Act.put, List.setIfInBounds_toArray, List.set_cons_zero, List.set_cons_succ]
            have Bw := Aside0.mk Q_Bw
            clear Q_Bw
            have X := Aside0.mk Q_X
            clear Q_X
            have Hh := Aside0.mk Q_Hh
            clear Q_Hh
            clear Q_L
            clear Q_R0
            clear Q_R3
            clear Q_H5
            clear Q_N05
            clear Q_N35
            have R6 := Aside0.mk (Q_R6 hb6_)
            clear Q_R6
            clear hall hb0_ hb3_ hb4_ hb5_ hb6_ hb7_
            go_wp2
            go_roundg k1
            case rel => exact ⟨_, HT1, ⟨by rw [List.length_append, List.length_drop]; have := HLL.out; simp only [List.length_cons, List.length_nil]; omega⟩, ⟨Kd.R_mono R6.out (fun k hk => hk.1)⟩, Bw, X⟩
            all_goals omega
        · replace hcg : goesB ⟨x.f0, x.f1, x.f2, true⟩ = true := hcg
          rw [hf3] at q3
          clear hf3
          go_upto_region 24 with (first | (go_at_call 44; with_reducible refine (goes_calls ⟨x.f0, x.f1, x.f2, true⟩ _).mono ?_; rw [hcg]; rintro e wb ⟨rfl, hbb⟩; replace q0 := pw_cell_below hbb q0; replace q1 := pw_cell_below hbb q1; replace q2 := pw_cell_below hbb q2; replace q3 := pw_cell_below hbb q3; have HBb := Aside0.mk hbb; clear hbb) | ((with_reducible refine gate_dst (N := 11) rfl ?_); refine box_event ?hg (N := 11) ?hd (cs := #[.int .i64 0, .int .i64 0, .bool false, .bool false]) (t := 71) ?hr ?_; (case hd => rfl); (case hg => rfl); (case hr => first | (go_simp; done) | (go_simp; rfl)); intro gh hgh wa hbox hba; have z0 : wa.cell? ⟨gh, 0, none⟩ = some (.int .i64 0) := (blk_cell hbox 0).trans rfl; have z1 : wa.cell? ⟨gh, 1, none⟩ = some (.int .i64 0) := (blk_cell hbox 1).trans rfl; have z2 : wa.cell? ⟨gh, 2, none⟩ = some (.bool false) := (blk_cell hbox 2).trans rfl; have z3 : wa.cell? ⟨gh, 3, none⟩ = some (.bool false) := (blk_cell hbox 3).trans rfl; have y0 := blk_frozen hbox 0; have y1 := blk_frozen hbox 1; have y2 := blk_frozen hbox 2; have y3 := blk_frozen hbox 3; have HXa := Aside0.mk hbox; have HIa := Aside0.mk hgh; have HBa := Aside0.mk hba; clear hbox hgh hba))
          have hgh2 : wb.heap.size ≤ gh := Nat.le_of_eq HIa.out.symm
          have hh8 : (((((wa.setCell ⟨gh, 0, none⟩ (.int .i64 x.f0)).setCell ⟨gh, 1, none⟩ (.int .i64 x.f1)).setCell ⟨gh, 2, none⟩ (.bool x.f2)).setCell ⟨gh, 3, none⟩ (.bool true)).setCell ⟨gh, 3, none⟩ (.bool false)).heap[gh]? = some (.cells #[.int .i64 x.f0, .int .i64 x.f1, .bool x.f2, .bool false] 71 (0, 0)) := blk_put (blk_put (blk_put (blk_put (blk_put HXa.out 0 _ rfl) 1 _ rfl) 2 _ rfl) 3 _ rfl) 3 _ rfl
          have hbh : Below wb.heap.size wb (((((wa.setCell ⟨gh, 0, none⟩ (.int .i64 x.f0)).setCell ⟨gh, 1, none⟩ (.int .i64 x.f1)).setCell ⟨gh, 2, none⟩ (.bool x.f2)).setCell ⟨gh, 3, none⟩ (.bool true)).setCell ⟨gh, 3, none⟩ (.bool false)) := ((((HBa.out.setCell (p := ⟨gh, 0, none⟩) hgh2 _).setCell (p := ⟨gh, 1, none⟩) hgh2 _).setCell (p := ⟨gh, 2, none⟩) hgh2 _).setCell (p := ⟨gh, 3, none⟩) hgh2 _).setCell (p := ⟨gh, 3, none⟩) hgh2 _
          clear z0 z1 z2 z3 y0 y1 y2 y3 q0 q1 q2 q3 HXa HBa p0
          generalize (((((wa.setCell ⟨gh, 0, none⟩ (.int .i64 x.f0)).setCell ⟨gh, 1, none⟩ (.int .i64 x.f1)).setCell ⟨gh, 2, none⟩ (.bool x.f2)).setCell ⟨gh, 3, none⟩ (.bool true)).setCell ⟨gh, 3, none⟩ (.bool false)) = wc at *
          have Bw : Aside0 (Below w.heap.size w wc.drew) := ⟨below_drew (below_step (below_step hB1.out HBb.out) hbh)⟩
          have X : Aside0 (wc.drew.heap[gi]? = some (.cells #[.int .i64 b, .int .i64 0, .bool false, .bool true] 71 (0, 0))) := ⟨blk_drew (blk_below (blk_below hX.out HBb.out) hbh)⟩
          have Hh : Aside0 (wc.drew.heap[gh]? = some (.cells #[.int .i64 x.f0, .int .i64 x.f1, .bool x.f2, .bool false] 71 (0, 0))) := ⟨blk_drew hh8⟩
          have L : Aside0 (Kd.C k71 wc.drew A9 (li.length - 1) (li.drop 1)) := ⟨Kd.C_below (Kd.C_below HD.out HBb.out) (below_drew hbh)⟩
          clear hh8 hbh
          refine start_ (n := 8) (S := fun w' => True) (ds := []) #[false, false, false, false, false, false, false, false] (by kernel_rfl) rfl rfl trivial (fun hHeld => ?_)
          refine with_tabW UseR_tab24 UseR_bits24 (fun HT_ HW_ => ?_)
          refine pure_ (i := 1) (N := some 89) (v := ?_) (a' := ?_) #[false, true, false, false, false, false, false, false] rfl rfl (by kernel_rfl) (fun _ _ _ h => h) (Or.inl ⟨by rfl, ?_⟩) ?_ ?_
          rotate_left
          · intro w'
            go_simp
            with_reducible rfl
          rotate_left
          · simp only [Act.put, List.setIfInBounds_toArray, List.set_cons_zero, List.set_cons_succ, i64_w, i32_w]
            rfl
          refine pure_ (i := 2) (N := some 90) (v := ?_) (a' := ?_) #[false, true, true, false, false, false, false, false] rfl rfl (by kernel_rfl) (fun _ _ _ h => h) (Or.inl ⟨by rfl, ?_⟩) ?_ ?_
          rotate_left
          · intro w'
            go_simp
            with_reducible rfl
          rotate_left
          · simp only [Act.put, List.setIfInBounds_toArray, List.set_cons_zero, List.set_cons_succ, i64_w, i32_w]
            rfl
          rw [← HA9.out]
          refine inv_at [0, 3, 4, 5, 6, 7] (fun a0_ fl_ a w' => ∃ (v0 : Value) (v3 : Value) (v5 : Value) (g5 : Nat) (v6 : Value) (m7_ : Value), a = putSel a0_ fl_ [(0, 88, v0), (3, 91, v3), (4, 92, .agg #[.int .i64 x.f0, .int .i64 x.f1, .bool x.f2, .bool false]), (5, 93, v5), (6, 94, v6), (7, 7, m7_)] ∧ (Below w.heap.size w w') ∧ (w'.heap[gi]? = some (.cells #[.int .i64 b, .int .i64 0, .bool false, .bool true] 71 (0, 0))) ∧ (w'.heap[gh]? = some (.cells #[.int .i64 x.f0, .int .i64 x.f1, .bool x.f2, .bool false] 71 (0, 0))) ∧ (fl_ 3 = false → Kd.C k71 w' A9 (li.length - 1) (li.drop 1)) ∧ (fl_ 0 = true → fl_ 3 = false → Kd.R k71 71 w' w.heap.size (fun k => k ≠ gi ∧ k ≠ gh) v0 []) ∧ (fl_ 3 = true → fl_ 6 = false → Kd.R k71 71 w' w.heap.size (fun k => k ≠ gi ∧ k ≠ gh) v3 (li.drop 1)) ∧ (fl_ 5 = true → fl_ 6 = false → v5 = .slice (some ⟨g5, 0, none⟩) 1 1 ∧ w'.heap[g5]? = some (.cells #[.int .i64 x.f0, .int .i64 x.f1, .bool x.f2, .bool false] 71 (0, 0))) ∧ (fl_ 0 = true → fl_ 5 = true → fl_ 3 = false → some g5 ≠ v0.ownBlock) ∧ (fl_ 3 = true → fl_ 5 = true → fl_ 6 = false → some g5 ≠ v3.ownBlock) ∧ (fl_ 6 = true → Kd.R k71 71 w' w.heap.size (fun k => k ≠ gi ∧ k ≠ gh) v6 (li.drop 1 ++ [(⟨x.f0, x.f1, x.f2, false⟩ : S71)])) ∧ (fl_ 7 = true → (m7_ : Value) = v6)) HT_.out HW_.out (by kernel_rfl) (by kernel_rfl) ?_ ?_ ?_
          · exact ⟨.bool false, .bool false, .bool false, 0, .bool false, .bool false, by simp only [putSel, Bool.false_eq_true, if_false], Bw.out, X.out, Hh.out, fun _ => L.out, fun h_ => absurd h_ (by decide), fun h_ => absurd h_ (by decide), fun h_ => absurd h_ (by decide), fun h_ => absurd h_ (by decide), fun h_ => absurd h_ (by decide), fun h_ => absurd h_ (by decide), fun h_ => absurd h_ (by decide)⟩
          · skip
            clear Bw Hh L X
            refine steps_cons ?_ ?_
            · rintro fl_ a w' ⟨v0, v3, v5, g5, v6, m7_, ha, Q_Bw, Q_X, Q_Hh, Q_L, Q_R0, Q_R3, Q_H5, Q_N05, Q_N35, Q_R6, Q_X7_⟩ hb_ hon hoff
              refine ⟨_, rfl, fun K hK => ?_⟩
              replace ha := Aside0.mk ha
              have Bw := Aside0.mk Q_Bw
              have X := Aside0.mk Q_X
              have Hh := Aside0.mk Q_Hh
              have L := Aside0.mk (Q_L (hoff 3 (by kernel_rfl)))
              refine Kd.R_lit_step k71 (w0 := w) w.heap.size 71 (by rfl) (N := 88) rfl (xs := ([] : List S71)) (inner := []) (ok := (fun k => k ≠ gi ∧ k ≠ gh)) (okp := fun _ => False) (by first | (go_simp; done) | (go_simp; rfl)) (Reps.none _ _) (fun _ h => h.elim) ((fun (k : Nat) (hk : w'.heap.size ≤ k) => (show (fun k => k ≠ gi ∧ k ≠ gh) k from ⟨fun e => by have := blk_lt X.out; omega, fun e => by have := blk_lt Hh.out; omega⟩)) w'.heap.size (Nat.le_refl _)) Bw.out Bw.out.size (by decide) ?_
              intro v1 w1 ho1 hb1 hg1 hn1
              have hbl : Below w'.heap.size w' w1 := ⟨hg1.os, hg1.tape, hg1.output, hg1.size, fun k hk => hg1.block k hk (by simp)⟩
              obtain ⟨A1, c1, e1⟩ := Kd.R_slice ho1
              subst e1
              refine hK.out _ _ ⟨(.slice A1 ([] : List S71).length c1), v3, v5, g5, v6, m7_, (by rw [ha.out]; exact putSel_upk 0 hb_ rfl rfl rfl), hb1, blk_below X.out hbl, blk_below Hh.out hbl, fun _ => Kd.C_below L.out hbl, fun h0_ h1_ => ho1, fun h0_ _ => absurd ((hoff 3 (by kernel_rfl)).symm.trans h0_) (by decide), fun h0_ h1_ => ⟨(Q_H5 h0_ h1_).1, blk_below (Q_H5 h0_ h1_).2 hbl⟩, fun h0_ h1_ h2_ => fun e => by obtain ⟨q, hq, hl⟩ := hn1; have := blk_lt (Q_H5 h1_ (hoff 6 (by kernel_rfl))).2; rw [hq] at e; injection e; omega, fun h0_ _ _ => absurd ((hoff 3 (by kernel_rfl)).symm.trans h0_) (by decide), fun h0_ => absurd ((hoff 6 (by kernel_rfl)).symm.trans h0_) (by decide), fun h0_ => absurd ((hoff 7 (by kernel_rfl)).symm.trans h0_) (by decide)⟩
            refine steps_cons ?_ ?_
            · rintro fl_ a w' ⟨v0, v3, v5, g5, v6, m7_, ha, Q_Bw, Q_X, Q_Hh, Q_L, Q_R0, Q_R3, Q_H5, Q_N05, Q_N35, Q_R6, Q_X7_⟩ hb_ hon hoff
              refine ⟨_, rfl, fun K hK => ?_⟩
              have e88 : a.tmps[88]? = some (v0) := by rw [ha]; exact putSel_on (e := (0, 88, v0)) 0 rfl rfl (hon 0 (by kernel_rfl)) rfl
              have e90 : a.tmps[90]? = some (.slice A9 (li.length - 1) (cap - 1)) := by rw [ha]; exact (putSel_off rfl).trans rfl
              replace ha := Aside0.mk ha
              have Bw := Aside0.mk Q_Bw
              have X := Aside0.mk Q_X
              have Hh := Aside0.mk Q_Hh
              have L := Aside0.mk (Q_L hb_)
              have R0 := Aside0.mk (Q_R0 (hon 0 (by kernel_rfl)) hb_)
              refine Kd.R_append_rows_step k71 (w0 := w) w.heap.size (by rfl) (.tmp 88) (.tmp 90) 65 71 (.agg #[.int .i64 0, .int .i64 0, .bool false, .bool false]) 24 rfl Try.underlying65 info71 rfl (by decide) (by omega) v0 ([] : List S71) (li.drop 1) A9 (li.length - 1) (cap - 1) (fun k => k ≠ gi ∧ k ≠ gh) (fun _ => False) (eval_of e88) (eval_of e90) R0.out L.out (fun x cs h => by obtain rfl := k71_open h; exact k71_mkM _ _ _ x) (fun _ h => h.elim) (fun k hk => ⟨fun e => by have := blk_lt X.out; omega, fun e => by have := blk_lt Hh.out; omega⟩) Bw.out Bw.out.size (by have := HLN.out; simp; omega) ?_
              intro v1 w1 ho1 hb1 hg1 hat1
              rw [List.nil_append] at ho1
              have hne : ∀ k, some k ≠ v0.ownBlock → k < w'.heap.size → some k ≠ v1.ownBlock := fun k h1 h2 e => by
                rcases hat1 with h | ⟨q, h, hq⟩
                · exact h1 (e.trans h)
                · rw [h] at e; injection e; omega
              refine hK.out _ _ ⟨v0, v1, v5, g5, v6, m7_, (by rw [ha.out]; exact putSel_upk 1 hb_ rfl rfl rfl), hb1, (hg1.block _ (blk_lt X.out) (fun e => (R0.out.1 _ e.symm).1 rfl)).trans X.out, (hg1.block _ (blk_lt Hh.out) (fun e => (R0.out.1 _ e.symm).2 rfl)).trans Hh.out, fun h0_ => absurd ((up_self fl_ 3).symm.trans h0_) (by decide), fun _ h1_ => absurd ((up_self fl_ 3).symm.trans h1_) (by decide), fun h0_ h1_ => ho1, fun h0_ h1_ => ⟨(Q_H5 h0_ h1_).1, (hg1.block _ (blk_lt (Q_H5 h0_ h1_).2) (Q_N05 (hon 0 (by kernel_rfl)) h0_ hb_)).trans (Q_H5 h0_ h1_).2⟩, fun _ _ h2_ => absurd ((up_self fl_ 3).symm.trans h2_) (by decide), fun h0_ h1_ h2_ => hne _ (Q_N05 (hon 0 (by kernel_rfl)) h1_ hb_) (blk_lt (Q_H5 h1_ h2_).2), fun h0_ => absurd ((hoff 6 (by kernel_rfl)).symm.trans h0_) (by decide), fun h0_ => absurd ((hoff 7 (by kernel_rfl)).symm.trans h0_) (by decide)⟩
            refine steps_cons ?_ ?_
            · rintro fl_ a w' ⟨v0, v3, v5, g5, v6, m7_, ha, Q_Bw, Q_X, Q_Hh, Q_L, Q_R0, Q_R3, Q_H5, Q_N05, Q_N35, Q_R6, Q_X7_⟩ hb_ hon hoff
              refine ⟨_, rfl, fun K hK => ?_⟩
              have e11 : a.tmps[11]? = some (.pointer (some ⟨gh, 0, none⟩)) := by rw [ha]; exact (putSel_off rfl).trans rfl
              replace ha := Aside0.mk ha
              have Bw := Aside0.mk Q_Bw
              have X := Aside0.mk Q_X
              have Hh := Aside0.mk Q_Hh
              have q0 : w'.cell? ⟨gh, 0, none⟩ = some (.int .i64 x.f0) := (blk_cell Hh.out 0).trans rfl
              have q1 : w'.cell? ⟨gh, 1, none⟩ = some (.int .i64 x.f1) := (blk_cell Hh.out 1).trans rfl
              have q2 : w'.cell? ⟨gh, 2, none⟩ = some (.bool x.f2) := (blk_cell Hh.out 2).trans rfl
              have q3 : w'.cell? ⟨gh, 3, none⟩ = some (.bool false) := (blk_cell Hh.out 3).trans rfl
              refine value_ (w1 := w') (v := .agg #[.int .i64 x.f0, .int .i64 x.f1, .bool x.f2, .bool false]) (by rfl) rfl ?_ ?_
              · go_simp
                (try simp only [i64_w])
                try rfl
              refine hK.out _ _ ⟨v0, v3, v5, g5, v6, m7_, (by rw [ha.out]; exact putSel_upk 2 hb_ rfl rfl rfl), Q_Bw, Q_X, Q_Hh, Q_L, Q_R0, Q_R3, fun h0_ _ => absurd ((hoff 5 (by kernel_rfl)).symm.trans h0_) (by decide), fun _ h1_ _ => absurd ((hoff 5 (by kernel_rfl)).symm.trans h1_) (by decide), fun _ h1_ _ => absurd ((hoff 5 (by kernel_rfl)).symm.trans h1_) (by decide), fun h0_ => absurd ((hoff 6 (by kernel_rfl)).symm.trans h0_) (by decide), fun h0_ => absurd ((hoff 7 (by kernel_rfl)).symm.trans h0_) (by decide)⟩
            refine steps_cons ?_ ?_
            · rintro fl_ a w' ⟨v0, v3, v5, g5, v6, m7_, ha, Q_Bw, Q_X, Q_Hh, Q_L, Q_R0, Q_R3, Q_H5, Q_N05, Q_N35, Q_R6, Q_X7_⟩ hb_ hon hoff
              refine ⟨_, rfl, fun K hK => ?_⟩
              have e92 : a.tmps[92]? = some (.agg #[.int .i64 x.f0, .int .i64 x.f1, .bool x.f2, .bool false]) := by rw [ha]; exact putSel_on (e := (4, 92, .agg #[.int .i64 x.f0, .int .i64 x.f1, .bool x.f2, .bool false])) 2 rfl rfl (hon 4 (by kernel_rfl)) rfl
              replace ha := Aside0.mk ha
              have Bw := Aside0.mk Q_Bw
              have X := Aside0.mk Q_X
              have Hh := Aside0.mk Q_Hh
              refine event_step (v := .slice (some ⟨w'.heap.size, 0, none⟩) 1 1) (w1 := (w'.alloc (.cells #[.int .i64 x.f0, .int .i64 x.f1, .bool x.f2, .bool false] 71))) (by rfl) (by first | (go_simp; done) | (go_simp; rfl)) ?_
              have hbl : Below w'.heap.size w' (w'.alloc (.cells #[.int .i64 x.f0, .int .i64 x.f1, .bool x.f2, .bool false] 71)) := below_alloc (Below.refl _ _) _
              have hnew := blk_new w' (.cells #[.int .i64 x.f0, .int .i64 x.f1, .bool x.f2, .bool false] 71)
              refine hK.out _ _ ⟨v0, v3, (.slice (some ⟨w'.heap.size, 0, none⟩) 1 1), w'.heap.size, v6, m7_, (by rw [ha.out]; exact putSel_upk 3 hb_ rfl rfl rfl), below_alloc Bw.out _, blk_below X.out hbl, blk_below Hh.out hbl, fun h0_ => Kd.C_below (Q_L h0_) hbl, fun h0_ h1_ => Kd.R_below (Q_R0 h0_ h1_) hbl, fun h0_ h1_ => Kd.R_below (Q_R3 h0_ h1_) hbl, fun h0_ h1_ => ⟨rfl, hnew⟩, fun h0_ h1_ h2_ => fun e => Nat.lt_irrefl _ (Kd.R_lt (Q_R0 h0_ h2_) _ e.symm), fun h0_ h1_ h2_ => fun e => Nat.lt_irrefl _ (Kd.R_lt (Q_R3 h0_ h2_) _ e.symm), fun h0_ => absurd ((hoff 6 (by kernel_rfl)).symm.trans h0_) (by decide), fun h0_ => absurd ((hoff 7 (by kernel_rfl)).symm.trans h0_) (by decide)⟩
            refine steps_cons ?_ ?_
            · rintro fl_ a w' ⟨v0, v3, v5, g5, v6, m7_, ha, Q_Bw, Q_X, Q_Hh, Q_L, Q_R0, Q_R3, Q_H5, Q_N05, Q_N35, Q_R6, Q_X7_⟩ hb_ hon hoff
              refine ⟨_, rfl, fun K hK => ?_⟩
              have e91 : a.tmps[91]? = some (v3) := by rw [ha]; exact putSel_on (e := (3, 91, v3)) 1 rfl rfl (hon 3 (by kernel_rfl)) rfl
              have e93 : a.tmps[93]? = some (v5) := by rw [ha]; exact putSel_on (e := (5, 93, v5)) 3 rfl rfl (hon 5 (by kernel_rfl)) rfl
              replace ha := Aside0.mk ha
              have Bw := Aside0.mk Q_Bw
              have X := Aside0.mk Q_X
              have Hh := Aside0.mk Q_Hh
              have R3 := Aside0.mk (Q_R3 (hon 3 (by kernel_rfl)) hb_)
              have H5 := Aside0.mk (Q_H5 (hon 5 (by kernel_rfl)) hb_)
              have N35 := Aside0.mk (Q_N35 (hon 3 (by kernel_rfl)) (hon 5 (by kernel_rfl)) hb_)
              have hC5 : Kd.C k71 w' (some ⟨g5, 0, none⟩) 1 [(⟨x.f0, x.f1, x.f2, false⟩ : S71)] := c_one71 (⟨x.f0, x.f1, x.f2, false⟩ : S71) H5.out.2
              refine Kd.R_append_rows_step k71 (w0 := w) w.heap.size (by rfl) (.tmp 91) (.tmp 93) 65 71 (.agg #[.int .i64 0, .int .i64 0, .bool false, .bool false]) 24 rfl Try.underlying65 info71 rfl (by decide) (by omega) v3 (li.drop 1) [(⟨x.f0, x.f1, x.f2, false⟩ : S71)] (some ⟨g5, 0, none⟩) 1 1 (fun k => k ≠ gi ∧ k ≠ gh) (fun _ => False) (eval_of e91) ((eval_of e93).trans H5.out.1) R3.out hC5 (fun x cs h => by obtain rfl := k71_open h; exact k71_mkM _ _ _ x) (fun _ h => h.elim) (fun k hk => ⟨fun e => by have := blk_lt X.out; omega, fun e => by have := blk_lt Hh.out; omega⟩) Bw.out Bw.out.size (by have := HLN.out; rw [List.length_drop]; omega) ?_
              intro v1 w1 ho1 hb1 hg1 hat1
              refine hK.out _ _ ⟨v0, v3, v5, g5, v1, m7_, (by rw [ha.out]; exact putSel_upk 4 hb_ rfl rfl rfl), hb1, (hg1.block _ (blk_lt X.out) (fun e => (R3.out.1 _ e.symm).1 rfl)).trans X.out, (hg1.block _ (blk_lt Hh.out) (fun e => (R3.out.1 _ e.symm).2 rfl)).trans Hh.out, fun h0_ => absurd ((hon 3 (by kernel_rfl)).symm.trans h0_) (by decide), fun _ h1_ => absurd ((hon 3 (by kernel_rfl)).symm.trans h1_) (by decide), fun _ h1_ => absurd ((up_self fl_ 6).symm.trans h1_) (by decide), fun _ h1_ => absurd ((up_self fl_ 6).symm.trans h1_) (by decide), fun _ _ h2_ => absurd ((hon 3 (by kernel_rfl)).symm.trans h2_) (by decide), fun _ _ h2_ => absurd ((up_self fl_ 6).symm.trans h2_) (by decide), fun h0_ => ho1, fun h0_ => absurd ((hoff 7 (by kernel_rfl)).symm.trans h0_) (by decide)⟩
            refine steps_cons ?_ ?_
            · rintro fl_ a w' ⟨v0, v3, v5, g5, v6, m7_, ha, Q_Bw, Q_X, Q_Hh, Q_L, Q_R0, Q_R3, Q_H5, Q_N05, Q_N35, Q_R6, Q_X7_⟩ hb_ hon hoff
              refine ⟨_, rfl, fun K hK => ?_⟩
              have e94 : a.tmps[94]? = some (v6) := by rw [ha]; exact putSel_on (e := (6, 94, v6)) 4 rfl rfl (hon 6 (by kernel_rfl)) rfl
              replace ha := Aside0.mk ha
              have Bw := Aside0.mk Q_Bw
              have X := Aside0.mk Q_X
              have Hh := Aside0.mk Q_Hh
              have R6 := Aside0.mk (Q_R6 (hon 6 (by kernel_rfl)))
              refine value_ (w1 := w') (v := v6) (by rfl) rfl ?_ ?_
              · go_simp
                (try simp only [i64_w])
                try rfl
              refine hK.out _ _ ⟨v0, v3, v5, g5, v6, (v6), (by rw [ha.out]; exact putSel_upk 5 hb_ rfl rfl rfl), Q_Bw, Q_X, Q_Hh, fun h0_ => absurd ((hon 3 (by kernel_rfl)).symm.trans h0_) (by decide), fun _ h1_ => absurd ((hon 3 (by kernel_rfl)).symm.trans h1_) (by decide), fun _ h1_ => absurd ((hon 6 (by kernel_rfl)).symm.trans h1_) (by decide), fun _ h1_ => absurd ((hon 6 (by kernel_rfl)).symm.trans h1_) (by decide), fun _ _ h2_ => absurd ((hon 3 (by kernel_rfl)).symm.trans h2_) (by decide), fun _ _ h2_ => absurd ((hon 6 (by kernel_rfl)).symm.trans h2_) (by decide), Q_R6, fun _ => rfl⟩
            exact steps_nil
          · rintro fl_ a w' hall ⟨v0, v3, v5, g5, v6, m7_, ha, Q_Bw, Q_X, Q_Hh, Q_L, Q_R0, Q_R3, Q_H5, Q_N05, Q_N35, Q_R6, Q_X7_⟩
            clear Bw Hh L X
            have hb0_ := hall 0 (by kernel_rfl)
            have hb3_ := hall 3 (by kernel_rfl)
            have hb4_ := hall 4 (by kernel_rfl)
            have hb5_ := hall 5 (by kernel_rfl)
            have hb6_ := hall 6 (by kernel_rfl)
            have hb7_ := hall 7 (by kernel_rfl)
            subst ha
            obtain rfl := Q_X7_ hb7_
            simp only [putSel, hb0_, hb3_, hb4_, hb5_, hb6_, hb7_, if_true, Act.put, List.setIfInBounds_toArray, List.set_cons_zero, List.set_cons_succ]
            have Bw := Aside0.mk Q_Bw
            clear Q_Bw
            have X := Aside0.mk Q_X
            clear Q_X
            have Hh := Aside0.mk Q_Hh
            clear Q_Hh
            clear Q_L
            clear Q_R0
            clear Q_R3
            clear Q_H5
            clear Q_N05
            clear Q_N35
            have R6 := Aside0.mk (Q_R6 hb6_)
            clear Q_R6
            clear hall hb0_ hb3_ hb4_ hb5_ hb6_ hb7_
            go_wp2
            go_roundg k1
            case rel => exact ⟨_, HT1, ⟨by rw [List.length_append, List.length_drop]; have := HLL.out; simp only [List.length_cons, List.length_nil]; omega⟩, ⟨Kd.R_mono R6.out (fun k hk => hk.1)⟩, Bw, X⟩
            all_goals omega

end Go.Proofs.Ytlmnagbfmkaglaa.CC
