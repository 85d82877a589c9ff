import Derived.Test.YtfbjeiloefocgaaYB
/-! Contracts of the package arm: choose, Next. -/
namespace Go.Proofs.Ytfbjeiloefocgaa.CC
open Go.RowKit Go.Proofs.Ytfbjeiloefocgaa.Fl Go.Proofs.Ytfbjeiloefocgaa.PL Go.Proofs.Ytfbjeiloefocgaa.PG Go.Proofs.YtfbjeiloefocgaaW.PrintWords Go.Proofs.YtfbjeiloefocgaaW.PrintLast Go.Proofs.YtfbjeiloefocgaaW.PrintMore
attribute [local go_sem] Oper.semAt_some

def chF (p : Int) : Nat := if p = 2 then 65 else if p = 3 then 66 else if p = 4 then 67 else 68
theorem choose_calls {B : Nat} {P : Nat → Prop} {w : World} {g : Nat} {s : Sc} {l : List S77} (h : AS B P w g s l) :
    Calls Try.prog 42 #[.pointer (some ⟨g, 0, none⟩)] w fun e w' => e = .returned (.func (.func (chF s.p)) #[.pointer (some ⟨g, 0, none⟩)] #[]) ∧ w' = w := by
  obtain ⟨-, -, v, hg, -⟩ := h
  have c0 : w.cell? ⟨g, 0, none⟩ = some (.int .u8 s.p) := (blk_cell hg 0).trans rfl
  clear hg
  unfold chF
  by_cases h2 : s.p = 2
  · rw [if_pos h2]
    rw [h2] at c0
    clear h2
    go_enter Try.func42, Try.ntmps42
    go_wp2
    go_ret
    exact ⟨rfl, rfl⟩
  · rw [if_neg h2]
    have d2 : (s.p == 2) = false := by simpa using h2
    by_cases h3 : s.p = 3
    · rw [if_pos h3]
      rw [h3] at c0 d2
      clear h2 h3 d2
      go_enter Try.func42, Try.ntmps42
      go_wp2
      go_ret
      exact ⟨rfl, rfl⟩
    · rw [if_neg h3]
      have d3 : (s.p == 3) = false := by simpa using h3
      by_cases h4 : s.p = 4
      · rw [if_pos h4]
        rw [h4] at c0
        clear h2 h3 h4 d2 d3
        go_enter Try.func42, Try.ntmps42
        go_wp2
        go_ret
        exact ⟨rfl, rfl⟩
      · rw [if_neg h4]
        have d4 : (s.p == 4) = false := by simpa using h4
        clear h2 h3 h4
        generalize s.p = p at *
        go_enter Try.func42, Try.ntmps42
        go_wp2
        go_ret
        exact ⟨rfl, rfl⟩
theorem as_blk {B : Nat} {P : Nat → Prop} {w : World} {g : Nat} {s : Sc} {l : List S77} (h : AS B P w g s l) : ∃ v, w.heap[g]? = some (.cells #[.int .u8 s.p, .int .i64 s.per, .int .i64 s.pos, .bool s.up, .int .i64 s.mv, v] 67 (0, 0)) := by
  obtain ⟨-, -, v, hg, -⟩ := h
  exact ⟨v, hg⟩
theorem kept_trans {w w1 w2 : World} {S : Nat → Prop} (h : Kept w w1 S) (h2 : Kept w1 w2 S) : Kept w w2 S := ⟨Nat.le_trans h.1 h2.1, fun k hk hS => (h2.2 k (Nat.lt_of_lt_of_le hk h.1) hS).trans (h.2 k hk hS)⟩
theorem kept_blk {w w' : World} {S : Nat → Prop} (h : Kept w w' S) (k : Nat) (hk : k < w.heap.size) (hS : ¬ S k) : w'.heap[k]? = w.heap[k]? := h.2 k hk hS
/-- All are older by one. -/
def older (x : S77) : S77 := ⟨x.f0, x.f1 + 1⟩
theorem older_get (m : List S77) (i : Nat) (hi : i < m.length) (h : i < ((m.take i).map older ++ m.drop i).length) : ((m.take i).map older ++ m.drop i)[i] = m[i] := by
  have e : ((m.take i).map older).length = i := by rw [List.length_map, List.length_take]; omega
  have : ((m.take i).map older ++ m.drop i)[i]? = some m[i] := by
    rw [List.getElem?_append_right (by omega), e, Nat.sub_self, List.getElem?_drop, Nat.add_zero, List.getElem?_eq_getElem hi]
  rw [List.getElem?_eq_getElem h] at this
  exact Option.some.inj this
theorem older_set (m : List S77) (i : Nat) (hi : i < m.length) : ((m.take i).map older ++ m.drop i).set i ⟨m[i].f0, m[i].f1 + 1⟩ = (m.take (i + 1)).map older ++ m.drop (i + 1) := by
  have e : ((m.take i).map older).length = i := by rw [List.length_map, List.length_take]; omega
  rw [List.take_succ_eq_append_getElem hi, List.map_append, List.drop_eq_getElem_cons hi, List.set_append_right _ _ (by omega), e, Nat.sub_self, List.set_cons_zero, List.append_assoc]
  rfl
/-- Which one comes next, and whether it goes up then. -/
def pickA (s : Sc) (l : List S77) : S77 × Bool :=
  if 0 ≤ oldix l then (l.getD (oldix l).toNat z77, if (l.getD (oldix l).toNat z77).f0 = s.pos then s.up else decide (s.pos < (l.getD (oldix l).toNat z77).f0))
  else if s.p = 2 then (bst (nearB s) l, s.up) else if s.p = 3 then scanA s l else if s.p = 4 then (cycA s l, s.up) else (l.getD 0 z77, s.up)
def goA (s : Sc) (x : S77 × Bool) : Sc := { s with up := x.2, mv := s.mv + wayI s.pos x.1.f0 s.per, pos := x.1.f0 }
def dropA (l : List S77) (b : Int) : List S77 := (cancelA l b).2.map older
theorem oldix_range (l : List S77) : oldix l = -1 ∨ 0 ≤ oldix l ∧ oldix l < l.length := by
  unfold oldix
  split
  · right; omega
  · left; rfl
theorem cancel_len (l : List S77) (b : Int) : (cancelA l b).2.length ≤ l.length := by
  unfold cancelA
  split
  · exact Nat.le_refl _
  · simp only [List.length_eraseIdx]; split <;> omega
theorem cancel_mem {l : List S77} {b : Int} {x : S77} (h : x ∈ (cancelA l b).2) : x ∈ l := by
  unfold cancelA at h
  split at h
  · exact h
  · exact List.mem_of_mem_eraseIdx h
def next_T10 : Bool × List (List Nat × List Nat) := (true, [([], []), ([0], [0]), ([1], [1]), ([2], [2]), ([], []), ([], []), ([5], [5]), ([4, 6], [4, 6]), ([3, 7], [3, 7]), ([0, 0, 1, 2, 3, 4, 5, 6, 7, 8], [0]), ([9, 0, 1, 2, 3, 4, 5, 6, 7, 8], [9]), ([10, 8, 7, 0, 1, 2, 3, 4, 5, 6, 7, 8], [8, 10])])
def next_B10 : List Nat := [0, 1, 3, 7, 0, 0, 32, 112, 255, 511, 1023, 2047]
theorem next_tab10 : rtab .any (opsOf Try.f20 10) = next_T10 := by kernel_rfl
theorem next_bits10 : waitsOk next_T10.2 next_B10 = true := by kernel_rfl
def next_T8 : Bool × List (List Nat × List Nat) := (true, [([], []), ([], []), ([1], [1]), ([], []), ([3], [3]), ([4], [4]), ([5], [5]), ([2, 6], [2, 6]), ([0, 0, 1, 2, 3, 4, 5, 6, 7], [0]), ([8, 0, 1, 2, 3, 4, 5, 6, 7], [8]), ([9, 7, 0, 1, 2, 3, 4, 5, 6, 7], [7, 9])])
def next_B8 : List Nat := [0, 0, 2, 0, 8, 24, 56, 126, 255, 511, 1023]
theorem next_tab8 : rtab .any (opsOf Try.f20 8) = next_T8 := by kernel_rfl
theorem next_bits8 : waitsOk next_T8.2 next_B8 = true := by kernel_rfl
set_option maxRecDepth 100000 in
set_option maxHeartbeats 4000000 in
theorem Next_65 (g : Nat) (P : Nat → Prop) (s : Sc) (l : List S77) (w0 w : World) (hB : Below w0.heap.size w0 w) (h : AS w0.heap.size P w g s l) (hn : l.length < 1000) (h0 : 0 < l.length) (hP : ∀ k, P k → k < w.heap.size) (hpos : Bl s.pos) (hper : Tr s.per) (hall : ∀ x ∈ l, Bl x.f0) (hage : ∀ x ∈ l, x.f1 < 1000000 ∧ 0 ≤ x.f1) (hmv : 0 ≤ s.mv ∧ s.mv < 1000000000) (x : S77) (u : Bool) (hxm : x ∈ l) (hix : oldix l = -1) (hch : chF s.p = 65)
    (hcall : ∀ W, Below w.heap.size w W → Calls Try.prog 65 #[.pointer (some ⟨g, 0, none⟩)] W fun e w' => e = .returned (.agg #[.int .i64 x.f0, .int .i64 x.f1]) ∧ Aside0 (AS w0.heap.size P w' g { s with up := u } l ∧ Below w0.heap.size w0 w' ∧ Kept W w' P)) :
    Calls Try.prog 20 #[.pointer (some ⟨g, 0, none⟩)] w fun e w' => e = .returned (.tuple #[.int .i64 x.f0, .bool true]) ∧ AS w0.heap.size P w' g (goA s (x, u)) (dropA l x.f0) ∧ Below w0.heap.size w0 w' ∧ Kept w w' P := by
  have HS := Aside0.mk h
  have HB0 := Aside0.mk hB
  have HP := Aside0.mk hP
  have HAGE := Aside0.mk hage
  have HXB := Aside0.mk (hall x hxm)
  obtain ⟨gr0, cap0, hg, hR, hne0, hP0, hB00, hl0, hc0, hC0⟩ := as_open h h0
  have c5 : w.cell? ⟨g, 5, none⟩ = some (.slice (some ⟨gr0, 0, none⟩) l.length cap0) := (blk_cell hg 5).trans rfl
  have hold : ∀ W, Below w.heap.size w W → Calls Try.prog 40 #[.slice (some ⟨gr0, 0, none⟩) l.length cap0, .func (.func 41) #[] #[]] W fun e w' => e = .returned (.int .i64 (oldix l)) ∧ Below W.heap.size W w' := fun W hb => idxold_calls (some ⟨gr0, 0, none⟩) cap0 l W (Kd.C_below hC0 hb) (by omega)
  have d0 : ((l.length : Int) == 0) = false := by rw [beq_eq_false_iff_ne]; omega
  have HR := Aside0.mk hR
  have HG := Aside0.mk hg
  have hcho := fun W (hb : Below w.heap.size w W) => choose_calls (h.below hb)
  rw [hch] at hcho
  rw [hix] at hold
  clear h hB hP hage hall hR hg hC0 hix hch
  go_enter Try.func20, Try.ntmps20
  go_upto_region 4 with (first | ((with_reducible refine gate_dst (N := 4) rfl ?_); refine box_event ?hg (N := 4) ?hd (cs := #[.int .i64 0, .int .i64 0]) (t := 77) ?hr ?_; (case hd => rfl); (case hg => rfl); (case hr => first | (go_simp; done) | (go_simp; rfl)); intro gx hgx w6 hbox hb7; have z0 : w6.cell? ⟨gx, 0, none⟩ = some (.int .i64 0) := (blk_cell hbox 0).trans rfl; have z1 : w6.cell? ⟨gx, 1, none⟩ = some (.int .i64 0) := (blk_cell hbox 1).trans rfl; have y0 := blk_frozen hbox 0; have y1 := blk_frozen hbox 1; have HXgx := Aside0.mk hbox; have HIgx := Aside0.mk hgx; have HBgx := Aside0.mk hb7; clear hbox hgx hb7))
  have HGX : Aside0 (w.heap.size ≤ gx) := ⟨Nat.le_of_eq HIgx.out.symm⟩
  have c6 := pw_cell_below HBgx.out c5
  have hold6 := hold _ HBgx.out
  go_upto_region 10 with (first | (go_at_call 40; with_reducible refine hold6.mono ?_; rintro e w7 ⟨rfl, hb7⟩; have HB7 := Aside0.mk (below_step HBgx.out hb7); have HG7 := Aside0.mk (blk_below HXgx.out hb7); clear hb7 hold6 z0 z1 y0 y1) | (go_at_call 42; with_reducible refine (hcho _ HB7.out).mono ?_; rintro e w7b ⟨rfl, rfl⟩) | (go_at_call 65; with_reducible refine (hcall _ HB7.out).mono ?_; rintro e w8 ⟨rfl, h8⟩; have hg8 : w8.heap[gx]? = some (.cells #[.int .i64 0, .int .i64 0] 77 (0, 0)) := (kept_blk h8.out.2.2 gx (blk_lt HG7.out) (fun h => absurd (HP.out gx h) (Nat.not_lt.2 HGX.out))).trans HG7.out; have z0 := cell0 hg8; have z1 := cell1 hg8; have y0 := blk_frozen hg8 0; have y1 := blk_frozen hg8 1; have HG8 := Aside0.mk hg8; clear hg8))
  have HXA : Aside0 (((w8.setCell ⟨gx, 0, none⟩ (.int .i64 x.f0)).setCell ⟨gx, 1, none⟩ (.int .i64 x.f1)).heap[gx]? = some (.cells #[.int .i64 x.f0, .int .i64 x.f1] 77 (0, 0))) := ⟨blk_put (blk_put HG8.out 0 _ rfl) 1 _ rfl⟩
  have hks : Kept w8 ((w8.setCell ⟨gx, 0, none⟩ (.int .i64 x.f0)).setCell ⟨gx, 1, none⟩ (.int .i64 x.f1)) (fun k => k = gx) := ⟨by rw [World.size_setCell, World.size_setCell]; exact Nat.le_refl _, fun k hk hS => by rw [Below.heap_setCell _ _ _ k hS, Below.heap_setCell _ _ _ k hS]⟩
  have HA : Aside0 (AS w0.heap.size P ((w8.setCell ⟨gx, 0, none⟩ (.int .i64 x.f0)).setCell ⟨gx, 1, none⟩ (.int .i64 x.f1)) g { s with up := u } l) := ⟨(h8.out.1.kept hks (fun k h1 h2 => absurd (HP.out k h1) (by rw [h2]; exact Nat.not_lt.2 HGX.out))).mono (fun _ hk => hk.1)⟩
  have HBa : Aside0 (Below w0.heap.size w0 ((w8.setCell ⟨gx, 0, none⟩ (.int .i64 x.f0)).setCell ⟨gx, 1, none⟩ (.int .i64 x.f1))) := ⟨(h8.out.2.1.setCell (p := ⟨gx, 0, none⟩) (Nat.le_trans HB0.out.size HGX.out) _).setCell (p := ⟨gx, 1, none⟩) (Nat.le_trans HB0.out.size HGX.out) _⟩
  have HKa : Aside0 (Kept w ((w8.setCell ⟨gx, 0, none⟩ (.int .i64 x.f0)).setCell ⟨gx, 1, none⟩ (.int .i64 x.f1)) P) := ⟨Nat.le_trans HB7.out.size (Nat.le_trans h8.out.2.2.1 hks.1), fun k hk hS => (hks.2 k (Nat.lt_of_lt_of_le hk (Nat.le_trans HB7.out.size h8.out.2.2.1)) (fun e => absurd hk (by rw [e]; exact Nat.not_lt.2 HGX.out))).trans ((h8.out.2.2.2 k (Nat.lt_of_lt_of_le hk HB7.out.size) hS).trans (HB7.out.block k hk))⟩
  clear z0 z1 y0 y1 hks c5 c6 hold hcho hcall
  generalize ((w8.setCell ⟨gx, 0, none⟩ (.int .i64 x.f0)).setCell ⟨gx, 1, none⟩ (.int .i64 x.f1)) = wa at *
  clear h8 HG8 HG7 HB7 HXgx HIgx HBgx
  obtain ⟨va, hga⟩ := as_blk HA.out
  have c4 : wa.cell? ⟨g, 4, none⟩ = some (.int .i64 s.mv) := (blk_cell hga 4).trans rfl
  have x0 := cell0 HXA.out
  have hw1 : ∀ W, Below wa.heap.size wa W → Calls Try.prog 43 #[.pointer (some ⟨g, 0, none⟩), .int .i64 x.f0] W fun e w' => e = .returned (.int .i64 (wayI s.pos x.f0 s.per)) ∧ Below W.heap.size W w' := fun W hb => way_calls (s := { s with up := u }) x.f0 (HA.out.below hb) hpos hper HXB.out
  obtain ⟨d, hd⟩ : ∃ d, wayI s.pos x.f0 s.per = d := ⟨_, rfl⟩
  have hle := wayI_le s.pos x.f0 s.per hpos HXB.out hper
  rw [hd] at hle
  have EMV : Aside0 (wrap64 (s.mv + d) = s.mv + d) := ⟨by unfold wrap64; omega⟩
  have HD := Aside0.mk hd
  rw [hd] at hw1
  have HGA := Aside0.mk hga
  clear hga hd hle
  refine start_ (n := 12) (S := fun w' => w'.cell? ⟨g, 4, none⟩ = some (.int .i64 s.mv) ∧ w'.cell? ⟨gx, 0, none⟩ = some (.int .i64 x.f0)) (ds := [11]) #[false, false, false, false, false, false, false, false, false, false, false, false] (by kernel_rfl) rfl rfl ⟨c4, x0⟩ (fun hHeld => ?_); refine with_tabW next_tab10 next_bits10 (fun HT_ HW_ => ?_)
  refine pure_ (i := 0) (N := some 51) (v := ?_) (a' := ?_) #[true, false, false, false, false, false, false, false, false, false, false, false] rfl rfl (any_of HT_.out (by kernel_rfl)) (fun _ _ _ h => h) (Or.inl ⟨by rfl, ?_⟩) ?_ ?_
  rotate_left
  · intro w'
    go_simp
    with_reducible rfl
  rotate_left
  · simp only [Act.put, List.setIfInBounds_toArray, List.set_cons_zero, List.set_cons_succ]
    rfl
  refine pure_ (i := 1) (N := some 52) (v := ?_) (a' := ?_) #[true, true, false, false, false, false, false, false, false, false, false, false] rfl rfl (any_of HT_.out (by kernel_rfl)) (fun _ _ _ h => h) (Or.inl ⟨by rfl, ?_⟩) ?_ ?_
  rotate_left
  · intro w'
    go_simp
    with_reducible rfl
  rotate_left
  · simp only [Act.put, List.setIfInBounds_toArray, List.set_cons_zero, List.set_cons_succ]
    rfl
  refine pure_ (i := 2) (N := some 53) (v := ?_) (a' := ?_) #[true, true, true, false, false, false, false, false, false, false, false, false] rfl rfl (any_of HT_.out (by kernel_rfl)) (fun _ _ _ h => h) (Or.inl ⟨by rfl, ?_⟩) ?_ ?_
  rotate_left
  · intro w'
    go_simp
    with_reducible rfl
  rotate_left
  · simp only [Act.put, List.setIfInBounds_toArray, List.set_cons_zero, List.set_cons_succ]
    rfl
  refine take_ (i := 3) (N := some 54) (v := ?_) (a' := ?_) #[true, true, true, true, false, false, false, false, false, false, false, false] rfl rfl (take_ofW HT_.out HW_.out (by kernel_rfl)) (fun _ _ _ h => h) (Or.inl ⟨by rfl, ?_⟩) hHeld ?_ ?_
  rotate_left
  · rintro w' ⟨s0, s1⟩
    go_simp
    with_reducible rfl
  rotate_left
  · simp only [Act.put, List.setIfInBounds_toArray, List.set_cons_zero, List.set_cons_succ]
    rfl
  refine pure_ (i := 4) (N := some 55) (v := ?_) (a' := ?_) #[true, true, true, true, true, false, false, false, false, false, false, false] rfl rfl (any_of HT_.out (by kernel_rfl)) (fun _ _ _ h => h) (Or.inl ⟨by rfl, ?_⟩) ?_ ?_
  rotate_left
  · intro w'
    go_simp
    with_reducible rfl
  rotate_left
  · simp only [Act.put, List.setIfInBounds_toArray, List.set_cons_zero, List.set_cons_succ]
    rfl
  refine pure_ (i := 5) (N := some 56) (v := ?_) (a' := ?_) #[true, true, true, true, true, true, false, false, false, false, false, false] rfl rfl (any_of HT_.out (by kernel_rfl)) (fun _ _ _ h => h) (Or.inl ⟨by rfl, ?_⟩) ?_ ?_
  rotate_left
  · intro w'
    go_simp
    with_reducible rfl
  rotate_left
  · simp only [Act.put, List.setIfInBounds_toArray, List.set_cons_zero, List.set_cons_succ]
    rfl
  refine take_ (i := 6) (N := some 57) (v := ?_) (a' := ?_) #[true, true, true, true, true, true, true, false, false, false, false, false] rfl rfl (take_ofW HT_.out HW_.out (by kernel_rfl)) (fun _ _ _ h => h) (Or.inl ⟨by rfl, ?_⟩) hHeld ?_ ?_
  rotate_left
  · rintro w' ⟨s0, s1⟩
    go_simp
    with_reducible rfl
  rotate_left
  · simp only [Act.put, List.setIfInBounds_toArray, List.set_cons_zero, List.set_cons_succ]
    rfl
  refine one_ (i := 7) (N := some 58) #[true, true, true, true, true, true, true, true, false, false, false, false] rfl rfl (one_of HT_.out (by kernel_rfl)) (by decide) (fun K hK => ?_)
  refine goes_ Try.func43 (by kernel_rfl) rfl #[.pointer (some ⟨g, 0, none⟩), .int .i64 x.f0] (by rfl) rfl rfl (by (try simp only [List.map_toArray, List.map_cons, List.map_nil]); rfl) ?_
  with_reducible refine (hw1 _ (below_drew (Below.refl _ _))).mono ?_
  rintro e w2 ⟨rfl, hb2⟩
  have HB2 : Aside0 (Below wa.heap.size wa w2) := ⟨below_step (below_drew (Below.refl _ _)) hb2⟩
  refine ⟨_, rfl, ?_⟩
  have a0 := pw_cell_below hb2 hHeld.1
  have a1 := pw_cell_below hb2 hHeld.2
  clear hHeld
  refine hK.out _ _ ⟨a0, a1⟩ (fun hHeld => ?_)
  clear hK K
  refine norm_ (a' := ?_) ?_ ?_
  rotate_left
  · show Act.put _ (some 58) _ = _
    simp only [Act.put, List.setIfInBounds_toArray, List.set_cons_zero, List.set_cons_succ]
    rfl
  refine pure_ (i := 8) (N := some 59) (v := ?_) (a' := ?_) #[true, true, true, true, true, true, true, true, true, false, false, false] rfl rfl (any_of HT_.out (by kernel_rfl)) (fun _ _ _ h => h) (Or.inl ⟨by rfl, ?_⟩) ?_ ?_
  rotate_left
  · intro w'
    go_simp
    with_reducible rfl
  rotate_left
  · simp only [Act.put, List.setIfInBounds_toArray, List.set_cons_zero, List.set_cons_succ, i64_w]
    rfl
  refine pure_ (i := 9) (N := some 60) (v := ?_) (a' := ?_) #[true, true, true, true, true, true, true, true, true, true, false, false] rfl rfl (any_of HT_.out (by kernel_rfl)) (fun _ _ _ h => h) (Or.inl ⟨by rfl, ?_⟩) ?_ ?_
  rotate_left
  · intro w'
    go_simp
    with_reducible rfl
  rotate_left
  · simp only [Act.put, List.setIfInBounds_toArray, List.set_cons_zero, List.set_cons_succ]
    rfl
  refine pure_ (i := 10) (N := some 61) (v := ?_) (a' := ?_) #[true, true, true, true, true, true, true, true, true, true, true, false] rfl rfl (any_of HT_.out (by kernel_rfl)) (fun _ _ _ h => h) (Or.inl ⟨by rfl, ?_⟩) ?_ ?_
  rotate_left
  · intro w'
    go_simp
    with_reducible rfl
  rotate_left
  · simp only [Act.put, List.setIfInBounds_toArray, List.set_cons_zero, List.set_cons_succ]
    rfl
  refine last_ (i := 11) (N := none) #[true, true, true, true, true, true, true, true, true, true, true, true] rfl rfl (one_of HT_.out (by kernel_rfl)) (by decide) (fun K hK => ?_)
  have hs8 := hHeld.1
  have hf8 := blk_frozen (blk_below HGA.out HB2.out) 4
  refine skip_ (w1 := ?_) (by rfl) rfl ?_ ?_
  rotate_left
  · go_simp
    rfl
  refine hK.out _ _ ?_
  clear hK K
  refine done_ (done_of HT_.out (by kernel_rfl)) ?_
  simp only [EMV.out]
  obtain ⟨ha2, hk2⟩ := AS.setc (HA.out.below HB2.out) 4 (.int .i64 (s.mv + d)) { s with up := u, mv := s.mv + d } (fun _ => rfl)
  have hgx : gx ≠ g := fun e => absurd (HP.out g HS.out.mine) (by rw [← e]; exact Nat.not_lt.2 HGX.out)
  have hx2 : (w2.setCell ⟨g, 4, none⟩ (.int .i64 (s.mv + d))).heap[gx]? = some (.cells #[.int .i64 x.f0, .int .i64 x.f1] 77 (0, 0)) := (Below.heap_setCell _ _ _ gx hgx).trans (blk_below HXA.out HB2.out)
  have hb2 : Below w0.heap.size w0 (w2.setCell ⟨g, 4, none⟩ (.int .i64 (s.mv + d))) := (below_then HBa.out HBa.out.size HB2.out).setCell (p := ⟨g, 4, none⟩) HS.out.base _
  have hk3 : Kept w (w2.setCell ⟨g, 4, none⟩ (.int .i64 (s.mv + d))) P := kept_trans HKa.out (kept_trans (kept_below P HB2.out) hk2)
  clear hw1 x0 c4 a0 a1 hk2 HKa HBa HGA hHeld hs8 hf8
  generalize w2.setCell ⟨g, 4, none⟩ (.int .i64 (s.mv + d)) = wb at *
  obtain ⟨vb, hgb⟩ := as_blk ha2
  have c2 : wb.cell? ⟨g, 2, none⟩ = some (.int .i64 s.pos) := (blk_cell hgb 2).trans rfl
  have f2 := blk_frozen hgb 2
  have x0 := cell0 hx2
  have HA2 := Aside0.mk ha2
  have HX2 := Aside0.mk hx2
  have HBb := Aside0.mk hb2
  have HKb := Aside0.mk hk3
  clear ha2 hx2 hb2 hk3 hgb
  go_upto_region 12 with (fail)
  obtain ⟨ha3, hk4⟩ := AS.setc HA2.out 2 (.int .i64 x.f0) { s with up := u, mv := s.mv + d, pos := x.f0 } (fun _ => rfl)
  have hx3 : (wb.setCell ⟨g, 2, none⟩ (.int .i64 x.f0)).heap[gx]? = some (.cells #[.int .i64 x.f0, .int .i64 x.f1] 77 (0, 0)) := (Below.heap_setCell _ _ _ gx hgx).trans HX2.out
  have hb3 : Below w0.heap.size w0 (wb.setCell ⟨g, 2, none⟩ (.int .i64 x.f0)) := HBb.out.setCell (p := ⟨g, 2, none⟩) HS.out.base _
  have hk5 : Kept w (wb.setCell ⟨g, 2, none⟩ (.int .i64 x.f0)) P := kept_trans HKb.out hk4
  clear c2 f2 x0 hk4
  generalize wb.setCell ⟨g, 2, none⟩ (.int .i64 x.f0) = wc at *
  have x0 := cell0 hx3
  have hcan := Cancel_calls g P _ l x.f0 w0 wc hb3 ha3 hn
  have HX3 := Aside0.mk hx3
  have HKc := Aside0.mk hk5
  clear ha3 hb3 hx3 hk5
  have hml := cancel_len l x.f0
  have hmm : ∀ y ∈ (cancelA l x.f0).2, y.f1 < 1000000 ∧ 0 ≤ y.f1 := fun y hy => HAGE.out y (cancel_mem hy)
  obtain ⟨m, hm⟩ : ∃ m, (cancelA l x.f0).2 = m := ⟨_, rfl⟩
  have HM : Aside0 (dropA l x.f0 = m.map older) := ⟨by unfold dropA; rw [hm]⟩
  rw [hm] at hcan hml hmm
  have HMM := Aside0.mk hmm
  have hmn : m.length < 1000 := Nat.lt_of_le_of_lt hml hn
  clear hm hmm hml
  go_upto_region 13 with (go_at_call 27; with_reducible refine hcan.mono ?_; rintro e wd ⟨rfl, had, hbd, hkd⟩; have HAD := Aside0.mk had; have HBD := Aside0.mk hbd; have HKD := Aside0.mk (kept_trans HKc.out hkd); have HXD : Aside0 (wd.heap[gx]? = some (.cells #[.int .i64 x.f0, .int .i64 x.f1] 77 (0, 0))) := ⟨(kept_blk hkd gx (blk_lt HX3.out) (fun h => absurd (HP.out gx h) (Nat.not_lt.2 HGX.out))).trans HX3.out⟩; clear had hbd hkd hcan)
  have c5 : ∃ A5 cp5, wd.cell? ⟨g, 5, none⟩ = some (.slice A5 m.length cp5) := by
    obtain ⟨-, -, v5, hg5, hR5⟩ := HAD.out
    obtain ⟨A5, cp5, rfl, -, -⟩ := Kd.R_reads hR5
    exact ⟨A5, cp5, (blk_cell hg5 5).trans rfl⟩
  obtain ⟨A5, cp5, c5⟩ := c5
  clear x0
  go_wp2
  go_loopg [6, 76] m.length (fun kq _ v76 w' => ∃ i : Nat, i + kq = m.length ∧ v76 = .int .i64 (i : Int) ∧ Aside0 (AS w0.heap.size P w' g { s with up := u, mv := s.mv + d, pos := x.f0 } ((m.take i).map older ++ m.drop i)) ∧ Aside0 (Below w0.heap.size w0 w') ∧ Aside0 (Kept w w' P) ∧ Aside0 (w'.heap[gx]? = some (.cells #[.int .i64 x.f0, .int .i64 x.f1] 77 (0, 0))))
  case atStart => exact ⟨0, by omega, rfl, ⟨by simpa using HAD.out⟩, HBD, HKD, HXD⟩
  case round =>
    obtain ⟨i, hi, rfl, HAi, HBi, HKi, HXi⟩ := hrel
    clear HAD HBD HKD HXD c5
    cases gk with
    | zero =>
      obtain rfl : i = m.length := by omega
      have c0 : decide ((m.length : Int) < (m.length : Int)) = false := by simp
      have x0 := cell0 HXi.out
      go_wp2
      go_ret2
      refine ⟨rfl, ?_, HBi.out, HKi.out⟩
      have := HAi.out
      rw [List.take_length, List.drop_length, List.append_nil, ← HM.out, ← HD.out] at this
      exact this
    | succ k1 =>
      have hlt : i < m.length := by omega
      have c0 : decide ((i : Int) < (m.length : Int)) = true := by simp; omega
      have el : ((m.take i).map older ++ m.drop i).length = m.length := by simp; omega
      obtain ⟨gr, cap, hg6, hR6, hne6, hP6, hB6, hl6, hc6, -⟩ := as_open HAi.out (by rw [el]; omega)
      obtain ⟨q0, q1⟩ := (as_cells hR6 i (by rw [el]; exact hlt)).1
      have qf := (as_cells hR6 i (by rw [el]; exact hlt)).2 1
      have egi : ((m.take i).map older ++ m.drop i)[i]'(by rw [el]; exact hlt) = m[i] := by
        exact older_get m i hlt _
      rw [egi] at q0 q1
      rw [el] at hg6 hR6
      have c5 : wr.cell? ⟨g, 5, none⟩ = some (.slice (some ⟨gr, 0, none⟩) m.length cap) := (blk_cell hg6 5).trans rfl
      have p1 : (0 ≤ (i : Int)) = True := eq_true (by omega)
      have p2 : ((i : Int) < (m.length : Int)) = True := eq_true (by omega)
      have hag := HMM.out m[i] (List.getElem_mem hlt)
      have ewi : Aside0 (wrap64 ((i : Int) + 1) = ((i + 1 : Nat) : Int)) := ⟨by unfold wrap64; omega⟩
      have ewa : wrap64 (m[i].f1 + 1) = m[i].f1 + 1 := by unfold wrap64; omega
      have eset : ((m.take i).map older ++ m.drop i).set i ⟨m[i].f0, m[i].f1 + 1⟩ = (m.take (i + 1)).map older ++ m.drop (i + 1) := older_set m i hlt
      obtain ⟨r1, r2⟩ := as_put (l := (m.take i).map older ++ m.drop i) hR6 i (by rw [el]; exact hlt) (m[i].f1 + 1)
      rw [egi, eset] at r1
      have hput := AS.put (l := (m.take i).map older ++ m.drop i) (row2 := (m.take (i + 1)).map older ++ m.drop (i + 1)) (s := { s with up := u, mv := s.mv + d, pos := x.f0 }) HS.out.base HS.out.mine hP6 hne6 (by simp; omega) (by rw [el]; exact hg6) (by rw [el]; exact r1) r2
      have hBp := below_grown HBi.out r2 hB6 HBi.out.size
      have hXp : (wr.setCell ⟨gr, i * 2 + 1, none⟩ (.int .i64 (m[i].f1 + 1))).heap[gx]? = some (.cells #[.int .i64 x.f0, .int .i64 x.f1] 77 (0, 0)) := (Below.heap_setCell _ _ _ gx (fun e => absurd (HP.out gr hP6) (by rw [← show gx = gr from e]; exact Nat.not_lt.2 HGX.out))).trans HXi.out
      have HPUT := Aside0.mk hput
      have HBP := Aside0.mk hBp
      have HXP := Aside0.mk hXp
      clear r1 r2 hput hBp hXp eset egi hg6 hR6 hag q0
      generalize m[i].f1 = ag0 at *
      go_wp2
      go_roundg k1
      case rel => exact ⟨i + 1, by omega, by first | rfl | rw [ewi.out], ⟨HPUT.out.1⟩, HBP, ⟨kept_trans HKi.out HPUT.out.2⟩, HXP⟩
      all_goals omega

set_option maxRecDepth 100000 in
set_option maxHeartbeats 4000000 in
theorem Next_66 (g : Nat) (P : Nat → Prop) (s : Sc) (l : List S77) (w0 w : World) (hB : Below w0.heap.size w0 w) (h : AS w0.heap.size P w g s l) (hn : l.length < 1000) (h0 : 0 < l.length) (hP : ∀ k, P k → k < w.heap.size) (hpos : Bl s.pos) (hper : Tr s.per) (hall : ∀ x ∈ l, Bl x.f0) (hage : ∀ x ∈ l, x.f1 < 1000000 ∧ 0 ≤ x.f1) (hmv : 0 ≤ s.mv ∧ s.mv < 1000000000) (x : S77) (u : Bool) (hxm : x ∈ l) (hix : oldix l = -1) (hch : chF s.p = 66)
    (hcall : ∀ W, Below w.heap.size w W → Calls Try.prog 66 #[.pointer (some ⟨g, 0, none⟩)] W fun e w' => e = .returned (.agg #[.int .i64 x.f0, .int .i64 x.f1]) ∧ Aside0 (AS w0.heap.size P w' g { s with up := u } l ∧ Below w0.heap.size w0 w' ∧ Kept W w' P)) :
    Calls Try.prog 20 #[.pointer (some ⟨g, 0, none⟩)] w fun e w' => e = .returned (.tuple #[.int .i64 x.f0, .bool true]) ∧ AS w0.heap.size P w' g (goA s (x, u)) (dropA l x.f0) ∧ Below w0.heap.size w0 w' ∧ Kept w w' P := by
  have HS := Aside0.mk h
  have HB0 := Aside0.mk hB
  have HP := Aside0.mk hP
  have HAGE := Aside0.mk hage
  have HXB := Aside0.mk (hall x hxm)
  obtain ⟨gr0, cap0, hg, hR, hne0, hP0, hB00, hl0, hc0, hC0⟩ := as_open h h0
  have c5 : w.cell? ⟨g, 5, none⟩ = some (.slice (some ⟨gr0, 0, none⟩) l.length cap0) := (blk_cell hg 5).trans rfl
  have hold : ∀ W, Below w.heap.size w W → Calls Try.prog 40 #[.slice (some ⟨gr0, 0, none⟩) l.length cap0, .func (.func 41) #[] #[]] W fun e w' => e = .returned (.int .i64 (oldix l)) ∧ Below W.heap.size W w' := fun W hb => idxold_calls (some ⟨gr0, 0, none⟩) cap0 l W (Kd.C_below hC0 hb) (by omega)
  have d0 : ((l.length : Int) == 0) = false := by rw [beq_eq_false_iff_ne]; omega
  have HR := Aside0.mk hR
  have HG := Aside0.mk hg
  have hcho := fun W (hb : Below w.heap.size w W) => choose_calls (h.below hb)
  rw [hch] at hcho
  rw [hix] at hold
  clear h hB hP hage hall hR hg hC0 hix hch
  go_enter Try.func20, Try.ntmps20
  go_upto_region 4 with (first | ((with_reducible refine gate_dst (N := 4) rfl ?_); refine box_event ?hg (N := 4) ?hd (cs := #[.int .i64 0, .int .i64 0]) (t := 77) ?hr ?_; (case hd => rfl); (case hg => rfl); (case hr => first | (go_simp; done) | (go_simp; rfl)); intro gx hgx w6 hbox hb7; have z0 : w6.cell? ⟨gx, 0, none⟩ = some (.int .i64 0) := (blk_cell hbox 0).trans rfl; have z1 : w6.cell? ⟨gx, 1, none⟩ = some (.int .i64 0) := (blk_cell hbox 1).trans rfl; have y0 := blk_frozen hbox 0; have y1 := blk_frozen hbox 1; have HXgx := Aside0.mk hbox; have HIgx := Aside0.mk hgx; have HBgx := Aside0.mk hb7; clear hbox hgx hb7))
  have HGX : Aside0 (w.heap.size ≤ gx) := ⟨Nat.le_of_eq HIgx.out.symm⟩
  have c6 := pw_cell_below HBgx.out c5
  have hold6 := hold _ HBgx.out
  go_upto_region 10 with (first | (go_at_call 40; with_reducible refine hold6.mono ?_; rintro e w7 ⟨rfl, hb7⟩; have HB7 := Aside0.mk (below_step HBgx.out hb7); have HG7 := Aside0.mk (blk_below HXgx.out hb7); clear hb7 hold6 z0 z1 y0 y1) | (go_at_call 42; with_reducible refine (hcho _ HB7.out).mono ?_; rintro e w7b ⟨rfl, rfl⟩) | (go_at_call 66; with_reducible refine (hcall _ HB7.out).mono ?_; rintro e w8 ⟨rfl, h8⟩; have hg8 : w8.heap[gx]? = some (.cells #[.int .i64 0, .int .i64 0] 77 (0, 0)) := (kept_blk h8.out.2.2 gx (blk_lt HG7.out) (fun h => absurd (HP.out gx h) (Nat.not_lt.2 HGX.out))).trans HG7.out; have z0 := cell0 hg8; have z1 := cell1 hg8; have y0 := blk_frozen hg8 0; have y1 := blk_frozen hg8 1; have HG8 := Aside0.mk hg8; clear hg8))
  have HXA : Aside0 (((w8.setCell ⟨gx, 0, none⟩ (.int .i64 x.f0)).setCell ⟨gx, 1, none⟩ (.int .i64 x.f1)).heap[gx]? = some (.cells #[.int .i64 x.f0, .int .i64 x.f1] 77 (0, 0))) := ⟨blk_put (blk_put HG8.out 0 _ rfl) 1 _ rfl⟩
  have hks : Kept w8 ((w8.setCell ⟨gx, 0, none⟩ (.int .i64 x.f0)).setCell ⟨gx, 1, none⟩ (.int .i64 x.f1)) (fun k => k = gx) := ⟨by rw [World.size_setCell, World.size_setCell]; exact Nat.le_refl _, fun k hk hS => by rw [Below.heap_setCell _ _ _ k hS, Below.heap_setCell _ _ _ k hS]⟩
  have HA : Aside0 (AS w0.heap.size P ((w8.setCell ⟨gx, 0, none⟩ (.int .i64 x.f0)).setCell ⟨gx, 1, none⟩ (.int .i64 x.f1)) g { s with up := u } l) := ⟨(h8.out.1.kept hks (fun k h1 h2 => absurd (HP.out k h1) (by rw [h2]; exact Nat.not_lt.2 HGX.out))).mono (fun _ hk => hk.1)⟩
  have HBa : Aside0 (Below w0.heap.size w0 ((w8.setCell ⟨gx, 0, none⟩ (.int .i64 x.f0)).setCell ⟨gx, 1, none⟩ (.int .i64 x.f1))) := ⟨(h8.out.2.1.setCell (p := ⟨gx, 0, none⟩) (Nat.le_trans HB0.out.size HGX.out) _).setCell (p := ⟨gx, 1, none⟩) (Nat.le_trans HB0.out.size HGX.out) _⟩
  have HKa : Aside0 (Kept w ((w8.setCell ⟨gx, 0, none⟩ (.int .i64 x.f0)).setCell ⟨gx, 1, none⟩ (.int .i64 x.f1)) P) := ⟨Nat.le_trans HB7.out.size (Nat.le_trans h8.out.2.2.1 hks.1), fun k hk hS => (hks.2 k (Nat.lt_of_lt_of_le hk (Nat.le_trans HB7.out.size h8.out.2.2.1)) (fun e => absurd hk (by rw [e]; exact Nat.not_lt.2 HGX.out))).trans ((h8.out.2.2.2 k (Nat.lt_of_lt_of_le hk HB7.out.size) hS).trans (HB7.out.block k hk))⟩
  clear z0 z1 y0 y1 hks c5 c6 hold hcho hcall
  generalize ((w8.setCell ⟨gx, 0, none⟩ (.int .i64 x.f0)).setCell ⟨gx, 1, none⟩ (.int .i64 x.f1)) = wa at *
  clear h8 HG8 HG7 HB7 HXgx HIgx HBgx
  obtain ⟨va, hga⟩ := as_blk HA.out
  have c4 : wa.cell? ⟨g, 4, none⟩ = some (.int .i64 s.mv) := (blk_cell hga 4).trans rfl
  have x0 := cell0 HXA.out
  have hw1 : ∀ W, Below wa.heap.size wa W → Calls Try.prog 43 #[.pointer (some ⟨g, 0, none⟩), .int .i64 x.f0] W fun e w' => e = .returned (.int .i64 (wayI s.pos x.f0 s.per)) ∧ Below W.heap.size W w' := fun W hb => way_calls (s := { s with up := u }) x.f0 (HA.out.below hb) hpos hper HXB.out
  obtain ⟨d, hd⟩ : ∃ d, wayI s.pos x.f0 s.per = d := ⟨_, rfl⟩
  have hle := wayI_le s.pos x.f0 s.per hpos HXB.out hper
  rw [hd] at hle
  have EMV : Aside0 (wrap64 (s.mv + d) = s.mv + d) := ⟨by unfold wrap64; omega⟩
  have HD := Aside0.mk hd
  rw [hd] at hw1
  have HGA := Aside0.mk hga
  clear hga hd hle
  refine start_ (n := 12) (S := fun w' => w'.cell? ⟨g, 4, none⟩ = some (.int .i64 s.mv) ∧ w'.cell? ⟨gx, 0, none⟩ = some (.int .i64 x.f0)) (ds := [11]) #[false, false, false, false, false, false, false, false, false, false, false, false] (by kernel_rfl) rfl rfl ⟨c4, x0⟩ (fun hHeld => ?_); refine with_tabW next_tab10 next_bits10 (fun HT_ HW_ => ?_)
  refine pure_ (i := 0) (N := some 51) (v := ?_) (a' := ?_) #[true, false, false, false, false, false, false, false, false, false, false, false] rfl rfl (any_of HT_.out (by kernel_rfl)) (fun _ _ _ h => h) (Or.inl ⟨by rfl, ?_⟩) ?_ ?_
  rotate_left
  · intro w'
    go_simp
    with_reducible rfl
  rotate_left
  · simp only [Act.put, List.setIfInBounds_toArray, List.set_cons_zero, List.set_cons_succ]
    rfl
  refine pure_ (i := 1) (N := some 52) (v := ?_) (a' := ?_) #[true, true, false, false, false, false, false, false, false, false, false, false] rfl rfl (any_of HT_.out (by kernel_rfl)) (fun _ _ _ h => h) (Or.inl ⟨by rfl, ?_⟩) ?_ ?_
  rotate_left
  · intro w'
    go_simp
    with_reducible rfl
  rotate_left
  · simp only [Act.put, List.setIfInBounds_toArray, List.set_cons_zero, List.set_cons_succ]
    rfl
  refine pure_ (i := 2) (N := some 53) (v := ?_) (a' := ?_) #[true, true, true, false, false, false, false, false, false, false, false, false] rfl rfl (any_of HT_.out (by kernel_rfl)) (fun _ _ _ h => h) (Or.inl ⟨by rfl, ?_⟩) ?_ ?_
  rotate_left
  · intro w'
    go_simp
    with_reducible rfl
  rotate_left
  · simp only [Act.put, List.setIfInBounds_toArray, List.set_cons_zero, List.set_cons_succ]
    rfl
  refine take_ (i := 3) (N := some 54) (v := ?_) (a' := ?_) #[true, true, true, true, false, false, false, false, false, false, false, false] rfl rfl (take_ofW HT_.out HW_.out (by kernel_rfl)) (fun _ _ _ h => h) (Or.inl ⟨by rfl, ?_⟩) hHeld ?_ ?_
  rotate_left
  · rintro w' ⟨s0, s1⟩
    go_simp
    with_reducible rfl
  rotate_left
  · simp only [Act.put, List.setIfInBounds_toArray, List.set_cons_zero, List.set_cons_succ]
    rfl
  refine pure_ (i := 4) (N := some 55) (v := ?_) (a' := ?_) #[true, true, true, true, true, false, false, false, false, false, false, false] rfl rfl (any_of HT_.out (by kernel_rfl)) (fun _ _ _ h => h) (Or.inl ⟨by rfl, ?_⟩) ?_ ?_
  rotate_left
  · intro w'
    go_simp
    with_reducible rfl
  rotate_left
  · simp only [Act.put, List.setIfInBounds_toArray, List.set_cons_zero, List.set_cons_succ]
    rfl
  refine pure_ (i := 5) (N := some 56) (v := ?_) (a' := ?_) #[true, true, true, true, true, true, false, false, false, false, false, false] rfl rfl (any_of HT_.out (by kernel_rfl)) (fun _ _ _ h => h) (Or.inl ⟨by rfl, ?_⟩) ?_ ?_
  rotate_left
  · intro w'
    go_simp
    with_reducible rfl
  rotate_left
  · simp only [Act.put, List.setIfInBounds_toArray, List.set_cons_zero, List.set_cons_succ]
    rfl
  refine take_ (i := 6) (N := some 57) (v := ?_) (a' := ?_) #[true, true, true, true, true, true, true, false, false, false, false, false] rfl rfl (take_ofW HT_.out HW_.out (by kernel_rfl)) (fun _ _ _ h => h) (Or.inl ⟨by rfl, ?_⟩) hHeld ?_ ?_
  rotate_left
  · rintro w' ⟨s0, s1⟩
    go_simp
    with_reducible rfl
  rotate_left
  · simp only [Act.put, List.setIfInBounds_toArray, List.set_cons_zero, List.set_cons_succ]
    rfl
  refine one_ (i := 7) (N := some 58) #[true, true, true, true, true, true, true, true, false, false, false, false] rfl rfl (one_of HT_.out (by kernel_rfl)) (by decide) (fun K hK => ?_)
  refine goes_ Try.func43 (by kernel_rfl) rfl #[.pointer (some ⟨g, 0, none⟩), .int .i64 x.f0] (by rfl) rfl rfl (by (try simp only [List.map_toArray, List.map_cons, List.map_nil]); rfl) ?_
  with_reducible refine (hw1 _ (below_drew (Below.refl _ _))).mono ?_
  rintro e w2 ⟨rfl, hb2⟩
  have HB2 : Aside0 (Below wa.heap.size wa w2) := ⟨below_step (below_drew (Below.refl _ _)) hb2⟩
  refine ⟨_, rfl, ?_⟩
  have a0 := pw_cell_below hb2 hHeld.1
  have a1 := pw_cell_below hb2 hHeld.2
  clear hHeld
  refine hK.out _ _ ⟨a0, a1⟩ (fun hHeld => ?_)
  clear hK K
  refine norm_ (a' := ?_) ?_ ?_
  rotate_left
  · show Act.put _ (some 58) _ = _
    simp only [Act.put, List.setIfInBounds_toArray, List.set_cons_zero, List.set_cons_succ]
    rfl
  refine pure_ (i := 8) (N := some 59) (v := ?_) (a' := ?_) #[true, true, true, true, true, true, true, true, true, false, false, false] rfl rfl (any_of HT_.out (by kernel_rfl)) (fun _ _ _ h => h) (Or.inl ⟨by rfl, ?_⟩) ?_ ?_
  rotate_left
  · intro w'
    go_simp
    with_reducible rfl
  rotate_left
  · simp only [Act.put, List.setIfInBounds_toArray, List.set_cons_zero, List.set_cons_succ, i64_w]
    rfl
  refine pure_ (i := 9) (N := some 60) (v := ?_) (a' := ?_) #[true, true, true, true, true, true, true, true, true, true, false, false] rfl rfl (any_of HT_.out (by kernel_rfl)) (fun _ _ _ h => h) (Or.inl ⟨by rfl, ?_⟩) ?_ ?_
  rotate_left
  · intro w'
    go_simp
    with_reducible rfl
  rotate_left
  · simp only [Act.put, List.setIfInBounds_toArray, List.set_cons_zero, List.set_cons_succ]
    rfl
  refine pure_ (i := 10) (N := some 61) (v := ?_) (a' := ?_) #[true, true, true, true, true, true, true, true, true, true, true, false] rfl rfl (any_of HT_.out (by kernel_rfl)) (fun _ _ _ h => h) (Or.inl ⟨by rfl, ?_⟩) ?_ ?_
  rotate_left
  · intro w'
    go_simp
    with_reducible rfl
  rotate_left
  · simp only [Act.put, List.setIfInBounds_toArray, List.set_cons_zero, List.set_cons_succ]
    rfl
  refine last_ (i := 11) (N := none) #[true, true, true, true, true, true, true, true, true, true, true, true] rfl rfl (one_of HT_.out (by kernel_rfl)) (by decide) (fun K hK => ?_)
  have hs8 := hHeld.1
  have hf8 := blk_frozen (blk_below HGA.out HB2.out) 4
  refine skip_ (w1 := ?_) (by rfl) rfl ?_ ?_
  rotate_left
  · go_simp
    rfl
  refine hK.out _ _ ?_
  clear hK K
  refine done_ (done_of HT_.out (by kernel_rfl)) ?_
  simp only [EMV.out]
  obtain ⟨ha2, hk2⟩ := AS.setc (HA.out.below HB2.out) 4 (.int .i64 (s.mv + d)) { s with up := u, mv := s.mv + d } (fun _ => rfl)
  have hgx : gx ≠ g := fun e => absurd (HP.out g HS.out.mine) (by rw [← e]; exact Nat.not_lt.2 HGX.out)
  have hx2 : (w2.setCell ⟨g, 4, none⟩ (.int .i64 (s.mv + d))).heap[gx]? = some (.cells #[.int .i64 x.f0, .int .i64 x.f1] 77 (0, 0)) := (Below.heap_setCell _ _ _ gx hgx).trans (blk_below HXA.out HB2.out)
  have hb2 : Below w0.heap.size w0 (w2.setCell ⟨g, 4, none⟩ (.int .i64 (s.mv + d))) := (below_then HBa.out HBa.out.size HB2.out).setCell (p := ⟨g, 4, none⟩) HS.out.base _
  have hk3 : Kept w (w2.setCell ⟨g, 4, none⟩ (.int .i64 (s.mv + d))) P := kept_trans HKa.out (kept_trans (kept_below P HB2.out) hk2)
  clear hw1 x0 c4 a0 a1 hk2 HKa HBa HGA hHeld hs8 hf8
  generalize w2.setCell ⟨g, 4, none⟩ (.int .i64 (s.mv + d)) = wb at *
  obtain ⟨vb, hgb⟩ := as_blk ha2
  have c2 : wb.cell? ⟨g, 2, none⟩ = some (.int .i64 s.pos) := (blk_cell hgb 2).trans rfl
  have f2 := blk_frozen hgb 2
  have x0 := cell0 hx2
  have HA2 := Aside0.mk ha2
  have HX2 := Aside0.mk hx2
  have HBb := Aside0.mk hb2
  have HKb := Aside0.mk hk3
  clear ha2 hx2 hb2 hk3 hgb
  go_upto_region 12 with (fail)
  obtain ⟨ha3, hk4⟩ := AS.setc HA2.out 2 (.int .i64 x.f0) { s with up := u, mv := s.mv + d, pos := x.f0 } (fun _ => rfl)
  have hx3 : (wb.setCell ⟨g, 2, none⟩ (.int .i64 x.f0)).heap[gx]? = some (.cells #[.int .i64 x.f0, .int .i64 x.f1] 77 (0, 0)) := (Below.heap_setCell _ _ _ gx hgx).trans HX2.out
  have hb3 : Below w0.heap.size w0 (wb.setCell ⟨g, 2, none⟩ (.int .i64 x.f0)) := HBb.out.setCell (p := ⟨g, 2, none⟩) HS.out.base _
  have hk5 : Kept w (wb.setCell ⟨g, 2, none⟩ (.int .i64 x.f0)) P := kept_trans HKb.out hk4
  clear c2 f2 x0 hk4
  generalize wb.setCell ⟨g, 2, none⟩ (.int .i64 x.f0) = wc at *
  have x0 := cell0 hx3
  have hcan := Cancel_calls g P _ l x.f0 w0 wc hb3 ha3 hn
  have HX3 := Aside0.mk hx3
  have HKc := Aside0.mk hk5
  clear ha3 hb3 hx3 hk5
  have hml := cancel_len l x.f0
  have hmm : ∀ y ∈ (cancelA l x.f0).2, y.f1 < 1000000 ∧ 0 ≤ y.f1 := fun y hy => HAGE.out y (cancel_mem hy)
  obtain ⟨m, hm⟩ : ∃ m, (cancelA l x.f0).2 = m := ⟨_, rfl⟩
  have HM : Aside0 (dropA l x.f0 = m.map older) := ⟨by unfold dropA; rw [hm]⟩
  rw [hm] at hcan hml hmm
  have HMM := Aside0.mk hmm
  have hmn : m.length < 1000 := Nat.lt_of_le_of_lt hml hn
  clear hm hmm hml
  go_upto_region 13 with (go_at_call 27; with_reducible refine hcan.mono ?_; rintro e wd ⟨rfl, had, hbd, hkd⟩; have HAD := Aside0.mk had; have HBD := Aside0.mk hbd; have HKD := Aside0.mk (kept_trans HKc.out hkd); have HXD : Aside0 (wd.heap[gx]? = some (.cells #[.int .i64 x.f0, .int .i64 x.f1] 77 (0, 0))) := ⟨(kept_blk hkd gx (blk_lt HX3.out) (fun h => absurd (HP.out gx h) (Nat.not_lt.2 HGX.out))).trans HX3.out⟩; clear had hbd hkd hcan)
  have c5 : ∃ A5 cp5, wd.cell? ⟨g, 5, none⟩ = some (.slice A5 m.length cp5) := by
    obtain ⟨-, -, v5, hg5, hR5⟩ := HAD.out
    obtain ⟨A5, cp5, rfl, -, -⟩ := Kd.R_reads hR5
    exact ⟨A5, cp5, (blk_cell hg5 5).trans rfl⟩
  obtain ⟨A5, cp5, c5⟩ := c5
  clear x0
  go_wp2
  go_loopg [6, 76] m.length (fun kq _ v76 w' => ∃ i : Nat, i + kq = m.length ∧ v76 = .int .i64 (i : Int) ∧ Aside0 (AS w0.heap.size P w' g { s with up := u, mv := s.mv + d, pos := x.f0 } ((m.take i).map older ++ m.drop i)) ∧ Aside0 (Below w0.heap.size w0 w') ∧ Aside0 (Kept w w' P) ∧ Aside0 (w'.heap[gx]? = some (.cells #[.int .i64 x.f0, .int .i64 x.f1] 77 (0, 0))))
  case atStart => exact ⟨0, by omega, rfl, ⟨by simpa using HAD.out⟩, HBD, HKD, HXD⟩
  case round =>
    obtain ⟨i, hi, rfl, HAi, HBi, HKi, HXi⟩ := hrel
    clear HAD HBD HKD HXD c5
    cases gk with
    | zero =>
      obtain rfl : i = m.length := by omega
      have c0 : decide ((m.length : Int) < (m.length : Int)) = false := by simp
      have x0 := cell0 HXi.out
      go_wp2
      go_ret2
      refine ⟨rfl, ?_, HBi.out, HKi.out⟩
      have := HAi.out
      rw [List.take_length, List.drop_length, List.append_nil, ← HM.out, ← HD.out] at this
      exact this
    | succ k1 =>
      have hlt : i < m.length := by omega
      have c0 : decide ((i : Int) < (m.length : Int)) = true := by simp; omega
      have el : ((m.take i).map older ++ m.drop i).length = m.length := by simp; omega
      obtain ⟨gr, cap, hg6, hR6, hne6, hP6, hB6, hl6, hc6, -⟩ := as_open HAi.out (by rw [el]; omega)
      obtain ⟨q0, q1⟩ := (as_cells hR6 i (by rw [el]; exact hlt)).1
      have qf := (as_cells hR6 i (by rw [el]; exact hlt)).2 1
      have egi : ((m.take i).map older ++ m.drop i)[i]'(by rw [el]; exact hlt) = m[i] := by
        exact older_get m i hlt _
      rw [egi] at q0 q1
      rw [el] at hg6 hR6
      have c5 : wr.cell? ⟨g, 5, none⟩ = some (.slice (some ⟨gr, 0, none⟩) m.length cap) := (blk_cell hg6 5).trans rfl
      have p1 : (0 ≤ (i : Int)) = True := eq_true (by omega)
      have p2 : ((i : Int) < (m.length : Int)) = True := eq_true (by omega)
      have hag := HMM.out m[i] (List.getElem_mem hlt)
      have ewi : Aside0 (wrap64 ((i : Int) + 1) = ((i + 1 : Nat) : Int)) := ⟨by unfold wrap64; omega⟩
      have ewa : wrap64 (m[i].f1 + 1) = m[i].f1 + 1 := by unfold wrap64; omega
      have eset : ((m.take i).map older ++ m.drop i).set i ⟨m[i].f0, m[i].f1 + 1⟩ = (m.take (i + 1)).map older ++ m.drop (i + 1) := older_set m i hlt
      obtain ⟨r1, r2⟩ := as_put (l := (m.take i).map older ++ m.drop i) hR6 i (by rw [el]; exact hlt) (m[i].f1 + 1)
      rw [egi, eset] at r1
      have hput := AS.put (l := (m.take i).map older ++ m.drop i) (row2 := (m.take (i + 1)).map older ++ m.drop (i + 1)) (s := { s with up := u, mv := s.mv + d, pos := x.f0 }) HS.out.base HS.out.mine hP6 hne6 (by simp; omega) (by rw [el]; exact hg6) (by rw [el]; exact r1) r2
      have hBp := below_grown HBi.out r2 hB6 HBi.out.size
      have hXp : (wr.setCell ⟨gr, i * 2 + 1, none⟩ (.int .i64 (m[i].f1 + 1))).heap[gx]? = some (.cells #[.int .i64 x.f0, .int .i64 x.f1] 77 (0, 0)) := (Below.heap_setCell _ _ _ gx (fun e => absurd (HP.out gr hP6) (by rw [← show gx = gr from e]; exact Nat.not_lt.2 HGX.out))).trans HXi.out
      have HPUT := Aside0.mk hput
      have HBP := Aside0.mk hBp
      have HXP := Aside0.mk hXp
      clear r1 r2 hput hBp hXp eset egi hg6 hR6 hag q0
      generalize m[i].f1 = ag0 at *
      go_wp2
      go_roundg k1
      case rel => exact ⟨i + 1, by omega, by first | rfl | rw [ewi.out], ⟨HPUT.out.1⟩, HBP, ⟨kept_trans HKi.out HPUT.out.2⟩, HXP⟩
      all_goals omega

set_option maxRecDepth 100000 in
set_option maxHeartbeats 4000000 in
theorem Next_67 (g : Nat) (P : Nat → Prop) (s : Sc) (l : List S77) (w0 w : World) (hB : Below w0.heap.size w0 w) (h : AS w0.heap.size P w g s l) (hn : l.length < 1000) (h0 : 0 < l.length) (hP : ∀ k, P k → k < w.heap.size) (hpos : Bl s.pos) (hper : Tr s.per) (hall : ∀ x ∈ l, Bl x.f0) (hage : ∀ x ∈ l, x.f1 < 1000000 ∧ 0 ≤ x.f1) (hmv : 0 ≤ s.mv ∧ s.mv < 1000000000) (x : S77) (u : Bool) (hxm : x ∈ l) (hix : oldix l = -1) (hch : chF s.p = 67)
    (hcall : ∀ W, Below w.heap.size w W → Calls Try.prog 67 #[.pointer (some ⟨g, 0, none⟩)] W fun e w' => e = .returned (.agg #[.int .i64 x.f0, .int .i64 x.f1]) ∧ Aside0 (AS w0.heap.size P w' g { s with up := u } l ∧ Below w0.heap.size w0 w' ∧ Kept W w' P)) :
    Calls Try.prog 20 #[.pointer (some ⟨g, 0, none⟩)] w fun e w' => e = .returned (.tuple #[.int .i64 x.f0, .bool true]) ∧ AS w0.heap.size P w' g (goA s (x, u)) (dropA l x.f0) ∧ Below w0.heap.size w0 w' ∧ Kept w w' P := by
  have HS := Aside0.mk h
  have HB0 := Aside0.mk hB
  have HP := Aside0.mk hP
  have HAGE := Aside0.mk hage
  have HXB := Aside0.mk (hall x hxm)
  obtain ⟨gr0, cap0, hg, hR, hne0, hP0, hB00, hl0, hc0, hC0⟩ := as_open h h0
  have c5 : w.cell? ⟨g, 5, none⟩ = some (.slice (some ⟨gr0, 0, none⟩) l.length cap0) := (blk_cell hg 5).trans rfl
  have hold : ∀ W, Below w.heap.size w W → Calls Try.prog 40 #[.slice (some ⟨gr0, 0, none⟩) l.length cap0, .func (.func 41) #[] #[]] W fun e w' => e = .returned (.int .i64 (oldix l)) ∧ Below W.heap.size W w' := fun W hb => idxold_calls (some ⟨gr0, 0, none⟩) cap0 l W (Kd.C_below hC0 hb) (by omega)
  have d0 : ((l.length : Int) == 0) = false := by rw [beq_eq_false_iff_ne]; omega
  have HR := Aside0.mk hR
  have HG := Aside0.mk hg
  have hcho := fun W (hb : Below w.heap.size w W) => choose_calls (h.below hb)
  rw [hch] at hcho
  rw [hix] at hold
  clear h hB hP hage hall hR hg hC0 hix hch
  go_enter Try.func20, Try.ntmps20
  go_upto_region 4 with (first | ((with_reducible refine gate_dst (N := 4) rfl ?_); refine box_event ?hg (N := 4) ?hd (cs := #[.int .i64 0, .int .i64 0]) (t := 77) ?hr ?_; (case hd => rfl); (case hg => rfl); (case hr => first | (go_simp; done) | (go_simp; rfl)); intro gx hgx w6 hbox hb7; have z0 : w6.cell? ⟨gx, 0, none⟩ = some (.int .i64 0) := (blk_cell hbox 0).trans rfl; have z1 : w6.cell? ⟨gx, 1, none⟩ = some (.int .i64 0) := (blk_cell hbox 1).trans rfl; have y0 := blk_frozen hbox 0; have y1 := blk_frozen hbox 1; have HXgx := Aside0.mk hbox; have HIgx := Aside0.mk hgx; have HBgx := Aside0.mk hb7; clear hbox hgx hb7))
  have HGX : Aside0 (w.heap.size ≤ gx) := ⟨Nat.le_of_eq HIgx.out.symm⟩
  have c6 := pw_cell_below HBgx.out c5
  have hold6 := hold _ HBgx.out
  go_upto_region 10 with (first | (go_at_call 40; with_reducible refine hold6.mono ?_; rintro e w7 ⟨rfl, hb7⟩; have HB7 := Aside0.mk (below_step HBgx.out hb7); have HG7 := Aside0.mk (blk_below HXgx.out hb7); clear hb7 hold6 z0 z1 y0 y1) | (go_at_call 42; with_reducible refine (hcho _ HB7.out).mono ?_; rintro e w7b ⟨rfl, rfl⟩) | (go_at_call 67; with_reducible refine (hcall _ HB7.out).mono ?_; rintro e w8 ⟨rfl, h8⟩; have hg8 : w8.heap[gx]? = some (.cells #[.int .i64 0, .int .i64 0] 77 (0, 0)) := (kept_blk h8.out.2.2 gx (blk_lt HG7.out) (fun h => absurd (HP.out gx h) (Nat.not_lt.2 HGX.out))).trans HG7.out; have z0 := cell0 hg8; have z1 := cell1 hg8; have y0 := blk_frozen hg8 0; have y1 := blk_frozen hg8 1; have HG8 := Aside0.mk hg8; clear hg8))
  have HXA : Aside0 (((w8.setCell ⟨gx, 0, none⟩ (.int .i64 x.f0)).setCell ⟨gx, 1, none⟩ (.int .i64 x.f1)).heap[gx]? = some (.cells #[.int .i64 x.f0, .int .i64 x.f1] 77 (0, 0))) := ⟨blk_put (blk_put HG8.out 0 _ rfl) 1 _ rfl⟩
  have hks : Kept w8 ((w8.setCell ⟨gx, 0, none⟩ (.int .i64 x.f0)).setCell ⟨gx, 1, none⟩ (.int .i64 x.f1)) (fun k => k = gx) := ⟨by rw [World.size_setCell, World.size_setCell]; exact Nat.le_refl _, fun k hk hS => by rw [Below.heap_setCell _ _ _ k hS, Below.heap_setCell _ _ _ k hS]⟩
  have HA : Aside0 (AS w0.heap.size P ((w8.setCell ⟨gx, 0, none⟩ (.int .i64 x.f0)).setCell ⟨gx, 1, none⟩ (.int .i64 x.f1)) g { s with up := u } l) := ⟨(h8.out.1.kept hks (fun k h1 h2 => absurd (HP.out k h1) (by rw [h2]; exact Nat.not_lt.2 HGX.out))).mono (fun _ hk => hk.1)⟩
  have HBa : Aside0 (Below w0.heap.size w0 ((w8.setCell ⟨gx, 0, none⟩ (.int .i64 x.f0)).setCell ⟨gx, 1, none⟩ (.int .i64 x.f1))) := ⟨(h8.out.2.1.setCell (p := ⟨gx, 0, none⟩) (Nat.le_trans HB0.out.size HGX.out) _).setCell (p := ⟨gx, 1, none⟩) (Nat.le_trans HB0.out.size HGX.out) _⟩
  have HKa : Aside0 (Kept w ((w8.setCell ⟨gx, 0, none⟩ (.int .i64 x.f0)).setCell ⟨gx, 1, none⟩ (.int .i64 x.f1)) P) := ⟨Nat.le_trans HB7.out.size (Nat.le_trans h8.out.2.2.1 hks.1), fun k hk hS => (hks.2 k (Nat.lt_of_lt_of_le hk (Nat.le_trans HB7.out.size h8.out.2.2.1)) (fun e => absurd hk (by rw [e]; exact Nat.not_lt.2 HGX.out))).trans ((h8.out.2.2.2 k (Nat.lt_of_lt_of_le hk HB7.out.size) hS).trans (HB7.out.block k hk))⟩
  clear z0 z1 y0 y1 hks c5 c6 hold hcho hcall
  generalize ((w8.setCell ⟨gx, 0, none⟩ (.int .i64 x.f0)).setCell ⟨gx, 1, none⟩ (.int .i64 x.f1)) = wa at *
  clear h8 HG8 HG7 HB7 HXgx HIgx HBgx
  obtain ⟨va, hga⟩ := as_blk HA.out
  have c4 : wa.cell? ⟨g, 4, none⟩ = some (.int .i64 s.mv) := (blk_cell hga 4).trans rfl
  have x0 := cell0 HXA.out
  have hw1 : ∀ W, Below wa.heap.size wa W → Calls Try.prog 43 #[.pointer (some ⟨g, 0, none⟩), .int .i64 x.f0] W fun e w' => e = .returned (.int .i64 (wayI s.pos x.f0 s.per)) ∧ Below W.heap.size W w' := fun W hb => way_calls (s := { s with up := u }) x.f0 (HA.out.below hb) hpos hper HXB.out
  obtain ⟨d, hd⟩ : ∃ d, wayI s.pos x.f0 s.per = d := ⟨_, rfl⟩
  have hle := wayI_le s.pos x.f0 s.per hpos HXB.out hper
  rw [hd] at hle
  have EMV : Aside0 (wrap64 (s.mv + d) = s.mv + d) := ⟨by unfold wrap64; omega⟩
  have HD := Aside0.mk hd
  rw [hd] at hw1
  have HGA := Aside0.mk hga
  clear hga hd hle
  refine start_ (n := 12) (S := fun w' => w'.cell? ⟨g, 4, none⟩ = some (.int .i64 s.mv) ∧ w'.cell? ⟨gx, 0, none⟩ = some (.int .i64 x.f0)) (ds := [11]) #[false, false, false, false, false, false, false, false, false, false, false, false] (by kernel_rfl) rfl rfl ⟨c4, x0⟩ (fun hHeld => ?_); refine with_tabW next_tab10 next_bits10 (fun HT_ HW_ => ?_)
  refine pure_ (i := 0) (N := some 51) (v := ?_) (a' := ?_) #[true, false, false, false, false, false, false, false, false, false, false, false] rfl rfl (any_of HT_.out (by kernel_rfl)) (fun _ _ _ h => h) (Or.inl ⟨by rfl, ?_⟩) ?_ ?_
  rotate_left
  · intro w'
    go_simp
    with_reducible rfl
  rotate_left
  · simp only [Act.put, List.setIfInBounds_toArray, List.set_cons_zero, List.set_cons_succ]
    rfl
  refine pure_ (i := 1) (N := some 52) (v := ?_) (a' := ?_) #[true, true, false, false, false, false, false, false, false, false, false, false] rfl rfl (any_of HT_.out (by kernel_rfl)) (fun _ _ _ h => h) (Or.inl ⟨by rfl, ?_⟩) ?_ ?_
  rotate_left
  · intro w'
    go_simp
    with_reducible rfl
  rotate_left
  · simp only [Act.put, List.setIfInBounds_toArray, List.set_cons_zero, List.set_cons_succ]
    rfl
  refine pure_ (i := 2) (N := some 53) (v := ?_) (a' := ?_) #[true, true, true, false, false, false, false, false, false, false, false, false] rfl rfl (any_of HT_.out (by kernel_rfl)) (fun _ _ _ h => h) (Or.inl ⟨by rfl, ?_⟩) ?_ ?_
  rotate_left
  · intro w'
    go_simp
    with_reducible rfl
  rotate_left
  · simp only [Act.put, List.setIfInBounds_toArray, List.set_cons_zero, List.set_cons_succ]
    rfl
  refine take_ (i := 3) (N := some 54) (v := ?_) (a' := ?_) #[true, true, true, true, false, false, false, false, false, false, false, false] rfl rfl (take_ofW HT_.out HW_.out (by kernel_rfl)) (fun _ _ _ h => h) (Or.inl ⟨by rfl, ?_⟩) hHeld ?_ ?_
  rotate_left
  · rintro w' ⟨s0, s1⟩
    go_simp
    with_reducible rfl
  rotate_left
  · simp only [Act.put, List.setIfInBounds_toArray, List.set_cons_zero, List.set_cons_succ]
    rfl
  refine pure_ (i := 4) (N := some 55) (v := ?_) (a' := ?_) #[true, true, true, true, true, false, false, false, false, false, false, false] rfl rfl (any_of HT_.out (by kernel_rfl)) (fun _ _ _ h => h) (Or.inl ⟨by rfl, ?_⟩) ?_ ?_
  rotate_left
  · intro w'
    go_simp
    with_reducible rfl
  rotate_left
  · simp only [Act.put, List.setIfInBounds_toArray, List.set_cons_zero, List.set_cons_succ]
    rfl
  refine pure_ (i := 5) (N := some 56) (v := ?_) (a' := ?_) #[true, true, true, true, true, true, false, false, false, false, false, false] rfl rfl (any_of HT_.out (by kernel_rfl)) (fun _ _ _ h => h) (Or.inl ⟨by rfl, ?_⟩) ?_ ?_
  rotate_left
  · intro w'
    go_simp
    with_reducible rfl
  rotate_left
  · simp only [Act.put, List.setIfInBounds_toArray, List.set_cons_zero, List.set_cons_succ]
    rfl
  refine take_ (i := 6) (N := some 57) (v := ?_) (a' := ?_) #[true, true, true, true, true, true, true, false, false, false, false, false] rfl rfl (take_ofW HT_.out HW_.out (by kernel_rfl)) (fun _ _ _ h => h) (Or.inl ⟨by rfl, ?_⟩) hHeld ?_ ?_
  rotate_left
  · rintro w' ⟨s0, s1⟩
    go_simp
    with_reducible rfl
  rotate_left
  · simp only [Act.put, List.setIfInBounds_toArray, List.set_cons_zero, List.set_cons_succ]
    rfl
  refine one_ (i := 7) (N := some 58) #[true, true, true, true, true, true, true, true, false, false, false, false] rfl rfl (one_of HT_.out (by kernel_rfl)) (by decide) (fun K hK => ?_)
  refine goes_ Try.func43 (by kernel_rfl) rfl #[.pointer (some ⟨g, 0, none⟩), .int .i64 x.f0] (by rfl) rfl rfl (by (try simp only [List.map_toArray, List.map_cons, List.map_nil]); rfl) ?_
  with_reducible refine (hw1 _ (below_drew (Below.refl _ _))).mono ?_
  rintro e w2 ⟨rfl, hb2⟩
  have HB2 : Aside0 (Below wa.heap.size wa w2) := ⟨below_step (below_drew (Below.refl _ _)) hb2⟩
  refine ⟨_, rfl, ?_⟩
  have a0 := pw_cell_below hb2 hHeld.1
  have a1 := pw_cell_below hb2 hHeld.2
  clear hHeld
  refine hK.out _ _ ⟨a0, a1⟩ (fun hHeld => ?_)
  clear hK K
  refine norm_ (a' := ?_) ?_ ?_
  rotate_left
  · show Act.put _ (some 58) _ = _
    simp only [Act.put, List.setIfInBounds_toArray, List.set_cons_zero, List.set_cons_succ]
    rfl
  refine pure_ (i := 8) (N := some 59) (v := ?_) (a' := ?_) #[true, true, true, true, true, true, true, true, true, false, false, false] rfl rfl (any_of HT_.out (by kernel_rfl)) (fun _ _ _ h => h) (Or.inl ⟨by rfl, ?_⟩) ?_ ?_
  rotate_left
  · intro w'
    go_simp
    with_reducible rfl
  rotate_left
  · simp only [Act.put, List.setIfInBounds_toArray, List.set_cons_zero, List.set_cons_succ, i64_w]
    rfl
  refine pure_ (i := 9) (N := some 60) (v := ?_) (a' := ?_) #[true, true, true, true, true, true, true, true, true, true, false, false] rfl rfl (any_of HT_.out (by kernel_rfl)) (fun _ _ _ h => h) (Or.inl ⟨by rfl, ?_⟩) ?_ ?_
  rotate_left
  · intro w'
    go_simp
    with_reducible rfl
  rotate_left
  · simp only [Act.put, List.setIfInBounds_toArray, List.set_cons_zero, List.set_cons_succ]
    rfl
  refine pure_ (i := 10) (N := some 61) (v := ?_) (a' := ?_) #[true, true, true, true, true, true, true, true, true, true, true, false] rfl rfl (any_of HT_.out (by kernel_rfl)) (fun _ _ _ h => h) (Or.inl ⟨by rfl, ?_⟩) ?_ ?_
  rotate_left
  · intro w'
    go_simp
    with_reducible rfl
  rotate_left
  · simp only [Act.put, List.setIfInBounds_toArray, List.set_cons_zero, List.set_cons_succ]
    rfl
  refine last_ (i := 11) (N := none) #[true, true, true, true, true, true, true, true, true, true, true, true] rfl rfl (one_of HT_.out (by kernel_rfl)) (by decide) (fun K hK => ?_)
  have hs8 := hHeld.1
  have hf8 := blk_frozen (blk_below HGA.out HB2.out) 4
  refine skip_ (w1 := ?_) (by rfl) rfl ?_ ?_
  rotate_left
  · go_simp
    rfl
  refine hK.out _ _ ?_
  clear hK K
  refine done_ (done_of HT_.out (by kernel_rfl)) ?_
  simp only [EMV.out]
  obtain ⟨ha2, hk2⟩ := AS.setc (HA.out.below HB2.out) 4 (.int .i64 (s.mv + d)) { s with up := u, mv := s.mv + d } (fun _ => rfl)
  have hgx : gx ≠ g := fun e => absurd (HP.out g HS.out.mine) (by rw [← e]; exact Nat.not_lt.2 HGX.out)
  have hx2 : (w2.setCell ⟨g, 4, none⟩ (.int .i64 (s.mv + d))).heap[gx]? = some (.cells #[.int .i64 x.f0, .int .i64 x.f1] 77 (0, 0)) := (Below.heap_setCell _ _ _ gx hgx).trans (blk_below HXA.out HB2.out)
  have hb2 : Below w0.heap.size w0 (w2.setCell ⟨g, 4, none⟩ (.int .i64 (s.mv + d))) := (below_then HBa.out HBa.out.size HB2.out).setCell (p := ⟨g, 4, none⟩) HS.out.base _
  have hk3 : Kept w (w2.setCell ⟨g, 4, none⟩ (.int .i64 (s.mv + d))) P := kept_trans HKa.out (kept_trans (kept_below P HB2.out) hk2)
  clear hw1 x0 c4 a0 a1 hk2 HKa HBa HGA hHeld hs8 hf8
  generalize w2.setCell ⟨g, 4, none⟩ (.int .i64 (s.mv + d)) = wb at *
  obtain ⟨vb, hgb⟩ := as_blk ha2
  have c2 : wb.cell? ⟨g, 2, none⟩ = some (.int .i64 s.pos) := (blk_cell hgb 2).trans rfl
  have f2 := blk_frozen hgb 2
  have x0 := cell0 hx2
  have HA2 := Aside0.mk ha2
  have HX2 := Aside0.mk hx2
  have HBb := Aside0.mk hb2
  have HKb := Aside0.mk hk3
  clear ha2 hx2 hb2 hk3 hgb
  go_upto_region 12 with (fail)
  obtain ⟨ha3, hk4⟩ := AS.setc HA2.out 2 (.int .i64 x.f0) { s with up := u, mv := s.mv + d, pos := x.f0 } (fun _ => rfl)
  have hx3 : (wb.setCell ⟨g, 2, none⟩ (.int .i64 x.f0)).heap[gx]? = some (.cells #[.int .i64 x.f0, .int .i64 x.f1] 77 (0, 0)) := (Below.heap_setCell _ _ _ gx hgx).trans HX2.out
  have hb3 : Below w0.heap.size w0 (wb.setCell ⟨g, 2, none⟩ (.int .i64 x.f0)) := HBb.out.setCell (p := ⟨g, 2, none⟩) HS.out.base _
  have hk5 : Kept w (wb.setCell ⟨g, 2, none⟩ (.int .i64 x.f0)) P := kept_trans HKb.out hk4
  clear c2 f2 x0 hk4
  generalize wb.setCell ⟨g, 2, none⟩ (.int .i64 x.f0) = wc at *
  have x0 := cell0 hx3
  have hcan := Cancel_calls g P _ l x.f0 w0 wc hb3 ha3 hn
  have HX3 := Aside0.mk hx3
  have HKc := Aside0.mk hk5
  clear ha3 hb3 hx3 hk5
  have hml := cancel_len l x.f0
  have hmm : ∀ y ∈ (cancelA l x.f0).2, y.f1 < 1000000 ∧ 0 ≤ y.f1 := fun y hy => HAGE.out y (cancel_mem hy)
  obtain ⟨m, hm⟩ : ∃ m, (cancelA l x.f0).2 = m := ⟨_, rfl⟩
  have HM : Aside0 (dropA l x.f0 = m.map older) := ⟨by unfold dropA; rw [hm]⟩
  rw [hm] at hcan hml hmm
  have HMM := Aside0.mk hmm
  have hmn : m.length < 1000 := Nat.lt_of_le_of_lt hml hn
  clear hm hmm hml
  go_upto_region 13 with (go_at_call 27; with_reducible refine hcan.mono ?_; rintro e wd ⟨rfl, had, hbd, hkd⟩; have HAD := Aside0.mk had; have HBD := Aside0.mk hbd; have HKD := Aside0.mk (kept_trans HKc.out hkd); have HXD : Aside0 (wd.heap[gx]? = some (.cells #[.int .i64 x.f0, .int .i64 x.f1] 77 (0, 0))) := ⟨(kept_blk hkd gx (blk_lt HX3.out) (fun h => absurd (HP.out gx h) (Nat.not_lt.2 HGX.out))).trans HX3.out⟩; clear had hbd hkd hcan)
  have c5 : ∃ A5 cp5, wd.cell? ⟨g, 5, none⟩ = some (.slice A5 m.length cp5) := by
    obtain ⟨-, -, v5, hg5, hR5⟩ := HAD.out
    obtain ⟨A5, cp5, rfl, -, -⟩ := Kd.R_reads hR5
    exact ⟨A5, cp5, (blk_cell hg5 5).trans rfl⟩
  obtain ⟨A5, cp5, c5⟩ := c5
  clear x0
  go_wp2
  go_loopg [6, 76] m.length (fun kq _ v76 w' => ∃ i : Nat, i + kq = m.length ∧ v76 = .int .i64 (i : Int) ∧ Aside0 (AS w0.heap.size P w' g { s with up := u, mv := s.mv + d, pos := x.f0 } ((m.take i).map older ++ m.drop i)) ∧ Aside0 (Below w0.heap.size w0 w') ∧ Aside0 (Kept w w' P) ∧ Aside0 (w'.heap[gx]? = some (.cells #[.int .i64 x.f0, .int .i64 x.f1] 77 (0, 0))))
  case atStart => exact ⟨0, by omega, rfl, ⟨by simpa using HAD.out⟩, HBD, HKD, HXD⟩
  case round =>
    obtain ⟨i, hi, rfl, HAi, HBi, HKi, HXi⟩ := hrel
    clear HAD HBD HKD HXD c5
    cases gk with
    | zero =>
      obtain rfl : i = m.length := by omega
      have c0 : decide ((m.length : Int) < (m.length : Int)) = false := by simp
      have x0 := cell0 HXi.out
      go_wp2
      go_ret2
      refine ⟨rfl, ?_, HBi.out, HKi.out⟩
      have := HAi.out
      rw [List.take_length, List.drop_length, List.append_nil, ← HM.out, ← HD.out] at this
      exact this
    | succ k1 =>
      have hlt : i < m.length := by omega
      have c0 : decide ((i : Int) < (m.length : Int)) = true := by simp; omega
      have el : ((m.take i).map older ++ m.drop i).length = m.length := by simp; omega
      obtain ⟨gr, cap, hg6, hR6, hne6, hP6, hB6, hl6, hc6, -⟩ := as_open HAi.out (by rw [el]; omega)
      obtain ⟨q0, q1⟩ := (as_cells hR6 i (by rw [el]; exact hlt)).1
      have qf := (as_cells hR6 i (by rw [el]; exact hlt)).2 1
      have egi : ((m.take i).map older ++ m.drop i)[i]'(by rw [el]; exact hlt) = m[i] := by
        exact older_get m i hlt _
      rw [egi] at q0 q1
      rw [el] at hg6 hR6
      have c5 : wr.cell? ⟨g, 5, none⟩ = some (.slice (some ⟨gr, 0, none⟩) m.length cap) := (blk_cell hg6 5).trans rfl
      have p1 : (0 ≤ (i : Int)) = True := eq_true (by omega)
      have p2 : ((i : Int) < (m.length : Int)) = True := eq_true (by omega)
      have hag := HMM.out m[i] (List.getElem_mem hlt)
      have ewi : Aside0 (wrap64 ((i : Int) + 1) = ((i + 1 : Nat) : Int)) := ⟨by unfold wrap64; omega⟩
      have ewa : wrap64 (m[i].f1 + 1) = m[i].f1 + 1 := by unfold wrap64; omega
      have eset : ((m.take i).map older ++ m.drop i).set i ⟨m[i].f0, m[i].f1 + 1⟩ = (m.take (i + 1)).map older ++ m.drop (i + 1) := older_set m i hlt
      obtain ⟨r1, r2⟩ := as_put (l := (m.take i).map older ++ m.drop i) hR6 i (by rw [el]; exact hlt) (m[i].f1 + 1)
      rw [egi, eset] at r1
      have hput := AS.put (l := (m.take i).map older ++ m.drop i) (row2 := (m.take (i + 1)).map older ++ m.drop (i + 1)) (s := { s with up := u, mv := s.mv + d, pos := x.f0 }) HS.out.base HS.out.mine hP6 hne6 (by simp; omega) (by rw [el]; exact hg6) (by rw [el]; exact r1) r2
      have hBp := below_grown HBi.out r2 hB6 HBi.out.size
      have hXp : (wr.setCell ⟨gr, i * 2 + 1, none⟩ (.int .i64 (m[i].f1 + 1))).heap[gx]? = some (.cells #[.int .i64 x.f0, .int .i64 x.f1] 77 (0, 0)) := (Below.heap_setCell _ _ _ gx (fun e => absurd (HP.out gr hP6) (by rw [← show gx = gr from e]; exact Nat.not_lt.2 HGX.out))).trans HXi.out
      have HPUT := Aside0.mk hput
      have HBP := Aside0.mk hBp
      have HXP := Aside0.mk hXp
      clear r1 r2 hput hBp hXp eset egi hg6 hR6 hag q0
      generalize m[i].f1 = ag0 at *
      go_wp2
      go_roundg k1
      case rel => exact ⟨i + 1, by omega, by first | rfl | rw [ewi.out], ⟨HPUT.out.1⟩, HBP, ⟨kept_trans HKi.out HPUT.out.2⟩, HXP⟩
      all_goals omega

set_option maxRecDepth 100000 in
set_option maxHeartbeats 4000000 in
theorem Next_68 (g : Nat) (P : Nat → Prop) (s : Sc) (l : List S77) (w0 w : World) (hB : Below w0.heap.size w0 w) (h : AS w0.heap.size P w g s l) (hn : l.length < 1000) (h0 : 0 < l.length) (hP : ∀ k, P k → k < w.heap.size) (hpos : Bl s.pos) (hper : Tr s.per) (hall : ∀ x ∈ l, Bl x.f0) (hage : ∀ x ∈ l, x.f1 < 1000000 ∧ 0 ≤ x.f1) (hmv : 0 ≤ s.mv ∧ s.mv < 1000000000) (x : S77) (u : Bool) (hxm : x ∈ l) (hix : oldix l = -1) (hch : chF s.p = 68)
    (hcall : ∀ W, Below w.heap.size w W → Calls Try.prog 68 #[.pointer (some ⟨g, 0, none⟩)] W fun e w' => e = .returned (.agg #[.int .i64 x.f0, .int .i64 x.f1]) ∧ Aside0 (AS w0.heap.size P w' g { s with up := u } l ∧ Below w0.heap.size w0 w' ∧ Kept W w' P)) :
    Calls Try.prog 20 #[.pointer (some ⟨g, 0, none⟩)] w fun e w' => e = .returned (.tuple #[.int .i64 x.f0, .bool true]) ∧ AS w0.heap.size P w' g (goA s (x, u)) (dropA l x.f0) ∧ Below w0.heap.size w0 w' ∧ Kept w w' P := by
  have HS := Aside0.mk h
  have HB0 := Aside0.mk hB
  have HP := Aside0.mk hP
  have HAGE := Aside0.mk hage
  have HXB := Aside0.mk (hall x hxm)
  obtain ⟨gr0, cap0, hg, hR, hne0, hP0, hB00, hl0, hc0, hC0⟩ := as_open h h0
  have c5 : w.cell? ⟨g, 5, none⟩ = some (.slice (some ⟨gr0, 0, none⟩) l.length cap0) := (blk_cell hg 5).trans rfl
  have hold : ∀ W, Below w.heap.size w W → Calls Try.prog 40 #[.slice (some ⟨gr0, 0, none⟩) l.length cap0, .func (.func 41) #[] #[]] W fun e w' => e = .returned (.int .i64 (oldix l)) ∧ Below W.heap.size W w' := fun W hb => idxold_calls (some ⟨gr0, 0, none⟩) cap0 l W (Kd.C_below hC0 hb) (by omega)
  have d0 : ((l.length : Int) == 0) = false := by rw [beq_eq_false_iff_ne]; omega
  have HR := Aside0.mk hR
  have HG := Aside0.mk hg
  have hcho := fun W (hb : Below w.heap.size w W) => choose_calls (h.below hb)
  rw [hch] at hcho
  rw [hix] at hold
  clear h hB hP hage hall hR hg hC0 hix hch
  go_enter Try.func20, Try.ntmps20
  go_upto_region 4 with (first | ((with_reducible refine gate_dst (N := 4) rfl ?_); refine box_event ?hg (N := 4) ?hd (cs := #[.int .i64 0, .int .i64 0]) (t := 77) ?hr ?_; (case hd => rfl); (case hg => rfl); (case hr => first | (go_simp; done) | (go_simp; rfl)); intro gx hgx w6 hbox hb7; have z0 : w6.cell? ⟨gx, 0, none⟩ = some (.int .i64 0) := (blk_cell hbox 0).trans rfl; have z1 : w6.cell? ⟨gx, 1, none⟩ = some (.int .i64 0) := (blk_cell hbox 1).trans rfl; have y0 := blk_frozen hbox 0; have y1 := blk_frozen hbox 1; have HXgx := Aside0.mk hbox; have HIgx := Aside0.mk hgx; have HBgx := Aside0.mk hb7; clear hbox hgx hb7))
  have HGX : Aside0 (w.heap.size ≤ gx) := ⟨Nat.le_of_eq HIgx.out.symm⟩
  have c6 := pw_cell_below HBgx.out c5
  have hold6 := hold _ HBgx.out
  go_upto_region 10 with (first | (go_at_call 40; with_reducible refine hold6.mono ?_; rintro e w7 ⟨rfl, hb7⟩; have HB7 := Aside0.mk (below_step HBgx.out hb7); have HG7 := Aside0.mk (blk_below HXgx.out hb7); clear hb7 hold6 z0 z1 y0 y1) | (go_at_call 42; with_reducible refine (hcho _ HB7.out).mono ?_; rintro e w7b ⟨rfl, rfl⟩) | (go_at_call 68; with_reducible refine (hcall _ HB7.out).mono ?_; rintro e w8 ⟨rfl, h8⟩; have hg8 : w8.heap[gx]? = some (.cells #[.int .i64 0, .int .i64 0] 77 (0, 0)) := (kept_blk h8.out.2.2 gx (blk_lt HG7.out) (fun h => absurd (HP.out gx h) (Nat.not_lt.2 HGX.out))).trans HG7.out; have z0 := cell0 hg8; have z1 := cell1 hg8; have y0 := blk_frozen hg8 0; have y1 := blk_frozen hg8 1; have HG8 := Aside0.mk hg8; clear hg8))
  have HXA : Aside0 (((w8.setCell ⟨gx, 0, none⟩ (.int .i64 x.f0)).setCell ⟨gx, 1, none⟩ (.int .i64 x.f1)).heap[gx]? = some (.cells #[.int .i64 x.f0, .int .i64 x.f1] 77 (0, 0))) := ⟨blk_put (blk_put HG8.out 0 _ rfl) 1 _ rfl⟩
  have hks : Kept w8 ((w8.setCell ⟨gx, 0, none⟩ (.int .i64 x.f0)).setCell ⟨gx, 1, none⟩ (.int .i64 x.f1)) (fun k => k = gx) := ⟨by rw [World.size_setCell, World.size_setCell]; exact Nat.le_refl _, fun k hk hS => by rw [Below.heap_setCell _ _ _ k hS, Below.heap_setCell _ _ _ k hS]⟩
  have HA : Aside0 (AS w0.heap.size P ((w8.setCell ⟨gx, 0, none⟩ (.int .i64 x.f0)).setCell ⟨gx, 1, none⟩ (.int .i64 x.f1)) g { s with up := u } l) := ⟨(h8.out.1.kept hks (fun k h1 h2 => absurd (HP.out k h1) (by rw [h2]; exact Nat.not_lt.2 HGX.out))).mono (fun _ hk => hk.1)⟩
  have HBa : Aside0 (Below w0.heap.size w0 ((w8.setCell ⟨gx, 0, none⟩ (.int .i64 x.f0)).setCell ⟨gx, 1, none⟩ (.int .i64 x.f1))) := ⟨(h8.out.2.1.setCell (p := ⟨gx, 0, none⟩) (Nat.le_trans HB0.out.size HGX.out) _).setCell (p := ⟨gx, 1, none⟩) (Nat.le_trans HB0.out.size HGX.out) _⟩
  have HKa : Aside0 (Kept w ((w8.setCell ⟨gx, 0, none⟩ (.int .i64 x.f0)).setCell ⟨gx, 1, none⟩ (.int .i64 x.f1)) P) := ⟨Nat.le_trans HB7.out.size (Nat.le_trans h8.out.2.2.1 hks.1), fun k hk hS => (hks.2 k (Nat.lt_of_lt_of_le hk (Nat.le_trans HB7.out.size h8.out.2.2.1)) (fun e => absurd hk (by rw [e]; exact Nat.not_lt.2 HGX.out))).trans ((h8.out.2.2.2 k (Nat.lt_of_lt_of_le hk HB7.out.size) hS).trans (HB7.out.block k hk))⟩
  clear z0 z1 y0 y1 hks c5 c6 hold hcho hcall
  generalize ((w8.setCell ⟨gx, 0, none⟩ (.int .i64 x.f0)).setCell ⟨gx, 1, none⟩ (.int .i64 x.f1)) = wa at *
  clear h8 HG8 HG7 HB7 HXgx HIgx HBgx
  obtain ⟨va, hga⟩ := as_blk HA.out
  have c4 : wa.cell? ⟨g, 4, none⟩ = some (.int .i64 s.mv) := (blk_cell hga 4).trans rfl
  have x0 := cell0 HXA.out
  have hw1 : ∀ W, Below wa.heap.size wa W → Calls Try.prog 43 #[.pointer (some ⟨g, 0, none⟩), .int .i64 x.f0] W fun e w' => e = .returned (.int .i64 (wayI s.pos x.f0 s.per)) ∧ Below W.heap.size W w' := fun W hb => way_calls (s := { s with up := u }) x.f0 (HA.out.below hb) hpos hper HXB.out
  obtain ⟨d, hd⟩ : ∃ d, wayI s.pos x.f0 s.per = d := ⟨_, rfl⟩
  have hle := wayI_le s.pos x.f0 s.per hpos HXB.out hper
  rw [hd] at hle
  have EMV : Aside0 (wrap64 (s.mv + d) = s.mv + d) := ⟨by unfold wrap64; omega⟩
  have HD := Aside0.mk hd
  rw [hd] at hw1
  have HGA := Aside0.mk hga
  clear hga hd hle
  refine start_ (n := 12) (S := fun w' => w'.cell? ⟨g, 4, none⟩ = some (.int .i64 s.mv) ∧ w'.cell? ⟨gx, 0, none⟩ = some (.int .i64 x.f0)) (ds := [11]) #[false, false, false, false, false, false, false, false, false, false, false, false] (by kernel_rfl) rfl rfl ⟨c4, x0⟩ (fun hHeld => ?_); refine with_tabW next_tab10 next_bits10 (fun HT_ HW_ => ?_)
  refine pure_ (i := 0) (N := some 51) (v := ?_) (a' := ?_) #[true, false, false, false, false, false, false, false, false, false, false, false] rfl rfl (any_of HT_.out (by kernel_rfl)) (fun _ _ _ h => h) (Or.inl ⟨by rfl, ?_⟩) ?_ ?_
  rotate_left
  · intro w'
    go_simp
    with_reducible rfl
  rotate_left
  · simp only [Act.put, List.setIfInBounds_toArray, List.set_cons_zero, List.set_cons_succ]
    rfl
  refine pure_ (i := 1) (N := some 52) (v := ?_) (a' := ?_) #[true, true, false, false, false, false, false, false, false, false, false, false] rfl rfl (any_of HT_.out (by kernel_rfl)) (fun _ _ _ h => h) (Or.inl ⟨by rfl, ?_⟩) ?_ ?_
  rotate_left
  · intro w'
    go_simp
    with_reducible rfl
  rotate_left
  · simp only [Act.put, List.setIfInBounds_toArray, List.set_cons_zero, List.set_cons_succ]
    rfl
  refine pure_ (i := 2) (N := some 53) (v := ?_) (a' := ?_) #[true, true, true, false, false, false, false, false, false, false, false, false] rfl rfl (any_of HT_.out (by kernel_rfl)) (fun _ _ _ h => h) (Or.inl ⟨by rfl, ?_⟩) ?_ ?_
  rotate_left
  · intro w'
    go_simp
    with_reducible rfl
  rotate_left
  · simp only [Act.put, List.setIfInBounds_toArray, List.set_cons_zero, List.set_cons_succ]
    rfl
  refine take_ (i := 3) (N := some 54) (v := ?_) (a' := ?_) #[true, true, true, true, false, false, false, false, false, false, false, false] rfl rfl (take_ofW HT_.out HW_.out (by kernel_rfl)) (fun _ _ _ h => h) (Or.inl ⟨by rfl, ?_⟩) hHeld ?_ ?_
  rotate_left
  · rintro w' ⟨s0, s1⟩
    go_simp
    with_reducible rfl
  rotate_left
  · simp only [Act.put, List.setIfInBounds_toArray, List.set_cons_zero, List.set_cons_succ]
    rfl
  refine pure_ (i := 4) (N := some 55) (v := ?_) (a' := ?_) #[true, true, true, true, true, false, false, false, false, false, false, false] rfl rfl (any_of HT_.out (by kernel_rfl)) (fun _ _ _ h => h) (Or.inl ⟨by rfl, ?_⟩) ?_ ?_
  rotate_left
  · intro w'
    go_simp
    with_reducible rfl
  rotate_left
  · simp only [Act.put, List.setIfInBounds_toArray, List.set_cons_zero, List.set_cons_succ]
    rfl
  refine pure_ (i := 5) (N := some 56) (v := ?_) (a' := ?_) #[true, true, true, true, true, true, false, false, false, false, false, false] rfl rfl (any_of HT_.out (by kernel_rfl)) (fun _ _ _ h => h) (Or.inl ⟨by rfl, ?_⟩) ?_ ?_
  rotate_left
  · intro w'
    go_simp
    with_reducible rfl
  rotate_left
  · simp only [Act.put, List.setIfInBounds_toArray, List.set_cons_zero, List.set_cons_succ]
    rfl
  refine take_ (i := 6) (N := some 57) (v := ?_) (a' := ?_) #[true, true, true, true, true, true, true, false, false, false, false, false] rfl rfl (take_ofW HT_.out HW_.out (by kernel_rfl)) (fun _ _ _ h => h) (Or.inl ⟨by rfl, ?_⟩) hHeld ?_ ?_
  rotate_left
  · rintro w' ⟨s0, s1⟩
    go_simp
    with_reducible rfl
  rotate_left
  · simp only [Act.put, List.setIfInBounds_toArray, List.set_cons_zero, List.set_cons_succ]
    rfl
  refine one_ (i := 7) (N := some 58) #[true, true, true, true, true, true, true, true, false, false, false, false] rfl rfl (one_of HT_.out (by kernel_rfl)) (by decide) (fun K hK => ?_)
  refine goes_ Try.func43 (by kernel_rfl) rfl #[.pointer (some ⟨g, 0, none⟩), .int .i64 x.f0] (by rfl) rfl rfl (by (try simp only [List.map_toArray, List.map_cons, List.map_nil]); rfl) ?_
  with_reducible refine (hw1 _ (below_drew (Below.refl _ _))).mono ?_
  rintro e w2 ⟨rfl, hb2⟩
  have HB2 : Aside0 (Below wa.heap.size wa w2) := ⟨below_step (below_drew (Below.refl _ _)) hb2⟩
  refine ⟨_, rfl, ?_⟩
  have a0 := pw_cell_below hb2 hHeld.1
  have a1 := pw_cell_below hb2 hHeld.2
  clear hHeld
  refine hK.out _ _ ⟨a0, a1⟩ (fun hHeld => ?_)
  clear hK K
  refine norm_ (a' := ?_) ?_ ?_
  rotate_left
  · show Act.put _ (some 58) _ = _
    simp only [Act.put, List.setIfInBounds_toArray, List.set_cons_zero, List.set_cons_succ]
    rfl
  refine pure_ (i := 8) (N := some 59) (v := ?_) (a' := ?_) #[true, true, true, true, true, true, true, true, true, false, false, false] rfl rfl (any_of HT_.out (by kernel_rfl)) (fun _ _ _ h => h) (Or.inl ⟨by rfl, ?_⟩) ?_ ?_
  rotate_left
  · intro w'
    go_simp
    with_reducible rfl
  rotate_left
  · simp only [Act.put, List.setIfInBounds_toArray, List.set_cons_zero, List.set_cons_succ, i64_w]
    rfl
  refine pure_ (i := 9) (N := some 60) (v := ?_) (a' := ?_) #[true, true, true, true, true, true, true, true, true, true, false, false] rfl rfl (any_of HT_.out (by kernel_rfl)) (fun _ _ _ h => h) (Or.inl ⟨by rfl, ?_⟩) ?_ ?_
  rotate_left
  · intro w'
    go_simp
    with_reducible rfl
  rotate_left
  · simp only [Act.put, List.setIfInBounds_toArray, List.set_cons_zero, List.set_cons_succ]
    rfl
  refine pure_ (i := 10) (N := some 61) (v := ?_) (a' := ?_) #[true, true, true, true, true, true, true, true, true, true, true, false] rfl rfl (any_of HT_.out (by kernel_rfl)) (fun _ _ _ h => h) (Or.inl ⟨by rfl, ?_⟩) ?_ ?_
  rotate_left
  · intro w'
    go_simp
    with_reducible rfl
  rotate_left
  · simp only [Act.put, List.setIfInBounds_toArray, List.set_cons_zero, List.set_cons_succ]
    rfl
  refine last_ (i := 11) (N := none) #[true, true, true, true, true, true, true, true, true, true, true, true] rfl rfl (one_of HT_.out (by kernel_rfl)) (by decide) (fun K hK => ?_)
  have hs8 := hHeld.1
  have hf8 := blk_frozen (blk_below HGA.out HB2.out) 4
  refine skip_ (w1 := ?_) (by rfl) rfl ?_ ?_
  rotate_left
  · go_simp
    rfl
  refine hK.out _ _ ?_
  clear hK K
  refine done_ (done_of HT_.out (by kernel_rfl)) ?_
  simp only [EMV.out]
  obtain ⟨ha2, hk2⟩ := AS.setc (HA.out.below HB2.out) 4 (.int .i64 (s.mv + d)) { s with up := u, mv := s.mv + d } (fun _ => rfl)
  have hgx : gx ≠ g := fun e => absurd (HP.out g HS.out.mine) (by rw [← e]; exact Nat.not_lt.2 HGX.out)
  have hx2 : (w2.setCell ⟨g, 4, none⟩ (.int .i64 (s.mv + d))).heap[gx]? = some (.cells #[.int .i64 x.f0, .int .i64 x.f1] 77 (0, 0)) := (Below.heap_setCell _ _ _ gx hgx).trans (blk_below HXA.out HB2.out)
  have hb2 : Below w0.heap.size w0 (w2.setCell ⟨g, 4, none⟩ (.int .i64 (s.mv + d))) := (below_then HBa.out HBa.out.size HB2.out).setCell (p := ⟨g, 4, none⟩) HS.out.base _
  have hk3 : Kept w (w2.setCell ⟨g, 4, none⟩ (.int .i64 (s.mv + d))) P := kept_trans HKa.out (kept_trans (kept_below P HB2.out) hk2)
  clear hw1 x0 c4 a0 a1 hk2 HKa HBa HGA hHeld hs8 hf8
  generalize w2.setCell ⟨g, 4, none⟩ (.int .i64 (s.mv + d)) = wb at *
  obtain ⟨vb, hgb⟩ := as_blk ha2
  have c2 : wb.cell? ⟨g, 2, none⟩ = some (.int .i64 s.pos) := (blk_cell hgb 2).trans rfl
  have f2 := blk_frozen hgb 2
  have x0 := cell0 hx2
  have HA2 := Aside0.mk ha2
  have HX2 := Aside0.mk hx2
  have HBb := Aside0.mk hb2
  have HKb := Aside0.mk hk3
  clear ha2 hx2 hb2 hk3 hgb
  go_upto_region 12 with (fail)
  obtain ⟨ha3, hk4⟩ := AS.setc HA2.out 2 (.int .i64 x.f0) { s with up := u, mv := s.mv + d, pos := x.f0 } (fun _ => rfl)
  have hx3 : (wb.setCell ⟨g, 2, none⟩ (.int .i64 x.f0)).heap[gx]? = some (.cells #[.int .i64 x.f0, .int .i64 x.f1] 77 (0, 0)) := (Below.heap_setCell _ _ _ gx hgx).trans HX2.out
  have hb3 : Below w0.heap.size w0 (wb.setCell ⟨g, 2, none⟩ (.int .i64 x.f0)) := HBb.out.setCell (p := ⟨g, 2, none⟩) HS.out.base _
  have hk5 : Kept w (wb.setCell ⟨g, 2, none⟩ (.int .i64 x.f0)) P := kept_trans HKb.out hk4
  clear c2 f2 x0 hk4
  generalize wb.setCell ⟨g, 2, none⟩ (.int .i64 x.f0) = wc at *
  have x0 := cell0 hx3
  have hcan := Cancel_calls g P _ l x.f0 w0 wc hb3 ha3 hn
  have HX3 := Aside0.mk hx3
  have HKc := Aside0.mk hk5
  clear ha3 hb3 hx3 hk5
  have hml := cancel_len l x.f0
  have hmm : ∀ y ∈ (cancelA l x.f0).2, y.f1 < 1000000 ∧ 0 ≤ y.f1 := fun y hy => HAGE.out y (cancel_mem hy)
  obtain ⟨m, hm⟩ : ∃ m, (cancelA l x.f0).2 = m := ⟨_, rfl⟩
  have HM : Aside0 (dropA l x.f0 = m.map older) := ⟨by unfold dropA; rw [hm]⟩
  rw [hm] at hcan hml hmm
  have HMM := Aside0.mk hmm
  have hmn : m.length < 1000 := Nat.lt_of_le_of_lt hml hn
  clear hm hmm hml
  go_upto_region 13 with (go_at_call 27; with_reducible refine hcan.mono ?_; rintro e wd ⟨rfl, had, hbd, hkd⟩; have HAD := Aside0.mk had; have HBD := Aside0.mk hbd; have HKD := Aside0.mk (kept_trans HKc.out hkd); have HXD : Aside0 (wd.heap[gx]? = some (.cells #[.int .i64 x.f0, .int .i64 x.f1] 77 (0, 0))) := ⟨(kept_blk hkd gx (blk_lt HX3.out) (fun h => absurd (HP.out gx h) (Nat.not_lt.2 HGX.out))).trans HX3.out⟩; clear had hbd hkd hcan)
  have c5 : ∃ A5 cp5, wd.cell? ⟨g, 5, none⟩ = some (.slice A5 m.length cp5) := by
    obtain ⟨-, -, v5, hg5, hR5⟩ := HAD.out
    obtain ⟨A5, cp5, rfl, -, -⟩ := Kd.R_reads hR5
    exact ⟨A5, cp5, (blk_cell hg5 5).trans rfl⟩
  obtain ⟨A5, cp5, c5⟩ := c5
  clear x0
  go_wp2
  go_loopg [6, 76] m.length (fun kq _ v76 w' => ∃ i : Nat, i + kq = m.length ∧ v76 = .int .i64 (i : Int) ∧ Aside0 (AS w0.heap.size P w' g { s with up := u, mv := s.mv + d, pos := x.f0 } ((m.take i).map older ++ m.drop i)) ∧ Aside0 (Below w0.heap.size w0 w') ∧ Aside0 (Kept w w' P) ∧ Aside0 (w'.heap[gx]? = some (.cells #[.int .i64 x.f0, .int .i64 x.f1] 77 (0, 0))))
  case atStart => exact ⟨0, by omega, rfl, ⟨by simpa using HAD.out⟩, HBD, HKD, HXD⟩
  case round =>
    obtain ⟨i, hi, rfl, HAi, HBi, HKi, HXi⟩ := hrel
    clear HAD HBD HKD HXD c5
    cases gk with
    | zero =>
      obtain rfl : i = m.length := by omega
      have c0 : decide ((m.length : Int) < (m.length : Int)) = false := by simp
      have x0 := cell0 HXi.out
      go_wp2
      go_ret2
      refine ⟨rfl, ?_, HBi.out, HKi.out⟩
      have := HAi.out
      rw [List.take_length, List.drop_length, List.append_nil, ← HM.out, ← HD.out] at this
      exact this
    | succ k1 =>
      have hlt : i < m.length := by omega
      have c0 : decide ((i : Int) < (m.length : Int)) = true := by simp; omega
      have el : ((m.take i).map older ++ m.drop i).length = m.length := by simp; omega
      obtain ⟨gr, cap, hg6, hR6, hne6, hP6, hB6, hl6, hc6, -⟩ := as_open HAi.out (by rw [el]; omega)
      obtain ⟨q0, q1⟩ := (as_cells hR6 i (by rw [el]; exact hlt)).1
      have qf := (as_cells hR6 i (by rw [el]; exact hlt)).2 1
      have egi : ((m.take i).map older ++ m.drop i)[i]'(by rw [el]; exact hlt) = m[i] := by
        exact older_get m i hlt _
      rw [egi] at q0 q1
      rw [el] at hg6 hR6
      have c5 : wr.cell? ⟨g, 5, none⟩ = some (.slice (some ⟨gr, 0, none⟩) m.length cap) := (blk_cell hg6 5).trans rfl
      have p1 : (0 ≤ (i : Int)) = True := eq_true (by omega)
      have p2 : ((i : Int) < (m.length : Int)) = True := eq_true (by omega)
      have hag := HMM.out m[i] (List.getElem_mem hlt)
      have ewi : Aside0 (wrap64 ((i : Int) + 1) = ((i + 1 : Nat) : Int)) := ⟨by unfold wrap64; omega⟩
      have ewa : wrap64 (m[i].f1 + 1) = m[i].f1 + 1 := by unfold wrap64; omega
      have eset : ((m.take i).map older ++ m.drop i).set i ⟨m[i].f0, m[i].f1 + 1⟩ = (m.take (i + 1)).map older ++ m.drop (i + 1) := older_set m i hlt
      obtain ⟨r1, r2⟩ := as_put (l := (m.take i).map older ++ m.drop i) hR6 i (by rw [el]; exact hlt) (m[i].f1 + 1)
      rw [egi, eset] at r1
      have hput := AS.put (l := (m.take i).map older ++ m.drop i) (row2 := (m.take (i + 1)).map older ++ m.drop (i + 1)) (s := { s with up := u, mv := s.mv + d, pos := x.f0 }) HS.out.base HS.out.mine hP6 hne6 (by simp; omega) (by rw [el]; exact hg6) (by rw [el]; exact r1) r2
      have hBp := below_grown HBi.out r2 hB6 HBi.out.size
      have hXp : (wr.setCell ⟨gr, i * 2 + 1, none⟩ (.int .i64 (m[i].f1 + 1))).heap[gx]? = some (.cells #[.int .i64 x.f0, .int .i64 x.f1] 77 (0, 0)) := (Below.heap_setCell _ _ _ gx (fun e => absurd (HP.out gr hP6) (by rw [← show gx = gr from e]; exact Nat.not_lt.2 HGX.out))).trans HXi.out
      have HPUT := Aside0.mk hput
      have HBP := Aside0.mk hBp
      have HXP := Aside0.mk hXp
      clear r1 r2 hput hBp hXp eset egi hg6 hR6 hag q0
      generalize m[i].f1 = ag0 at *
      go_wp2
      go_roundg k1
      case rel => exact ⟨i + 1, by omega, by first | rfl | rw [ewi.out], ⟨HPUT.out.1⟩, HBP, ⟨kept_trans HKi.out HPUT.out.2⟩, HXP⟩
      all_goals omega

set_option maxRecDepth 100000 in
set_option maxHeartbeats 4000000 in
theorem Next_same (g : Nat) (P : Nat → Prop) (s : Sc) (l : List S77) (w0 w : World) (hB : Below w0.heap.size w0 w) (h : AS w0.heap.size P w g s l) (hn : l.length < 1000) (h0 : 0 < l.length) (hP : ∀ k, P k → k < w.heap.size) (hpos : Bl s.pos) (hper : Tr s.per) (hall : ∀ x ∈ l, Bl x.f0) (hage : ∀ x ∈ l, x.f1 < 1000000 ∧ 0 ≤ x.f1) (hmv : 0 ≤ s.mv ∧ s.mv < 1000000000) (x : S77) (u : Bool) (n : Nat) (hnl : n < l.length) (hix : oldix l = (n : Int)) (hx : l[n] = x) (hs : x.f0 = s.pos) (hu : u = s.up) :
    Calls Try.prog 20 #[.pointer (some ⟨g, 0, none⟩)] w fun e w' => e = .returned (.tuple #[.int .i64 x.f0, .bool true]) ∧ AS w0.heap.size P w' g (goA s (x, u)) (dropA l x.f0) ∧ Below w0.heap.size w0 w' ∧ Kept w w' P := by
  have hxm : x ∈ l := by rw [← hx]; exact List.getElem_mem hnl
  have HS := Aside0.mk h
  have HB0 := Aside0.mk hB
  have HP := Aside0.mk hP
  have HAGE := Aside0.mk hage
  have HXB := Aside0.mk (hall x hxm)
  obtain ⟨gr0, cap0, hg, hR, hne0, hP0, hB00, hl0, hc0, hC0⟩ := as_open h h0
  have c5 : w.cell? ⟨g, 5, none⟩ = some (.slice (some ⟨gr0, 0, none⟩) l.length cap0) := (blk_cell hg 5).trans rfl
  have hold : ∀ W, Below w.heap.size w W → Calls Try.prog 40 #[.slice (some ⟨gr0, 0, none⟩) l.length cap0, .func (.func 41) #[] #[]] W fun e w' => e = .returned (.int .i64 (oldix l)) ∧ Below W.heap.size W w' := fun W hb => idxold_calls (some ⟨gr0, 0, none⟩) cap0 l W (Kd.C_below hC0 hb) (by omega)
  have d0 : ((l.length : Int) == 0) = false := by rw [beq_eq_false_iff_ne]; omega
  have HR := Aside0.mk hR
  have HG := Aside0.mk hg
  obtain ⟨q0, q1⟩ := (as_cells hR n hnl).1
  rw [hx] at q0 q1
  rw [hix] at hold
  have d1 : decide (0 ≤ (n : Int)) = true := by simp
  have p1 : (0 ≤ (n : Int)) = True := eq_true (by omega)
  have p2 : ((n : Int) < (l.length : Int)) = True := eq_true (by omega)
  have d2 : (x.f0 == s.pos) = true := beq_iff_eq.2 hs
  have d3 : (x.f0 != s.pos) = false := by rw [bne, d2]; rfl
  clear h hB hP hage hall hR hg hC0 hix hs
  go_enter Try.func20, Try.ntmps20
  go_upto_region 4 with (first | ((with_reducible refine gate_dst (N := 4) rfl ?_); refine box_event ?hg (N := 4) ?hd (cs := #[.int .i64 0, .int .i64 0]) (t := 77) ?hr ?_; (case hd => rfl); (case hg => rfl); (case hr => first | (go_simp; done) | (go_simp; rfl)); intro gx hgx w6 hbox hb7; have z0 : w6.cell? ⟨gx, 0, none⟩ = some (.int .i64 0) := (blk_cell hbox 0).trans rfl; have z1 : w6.cell? ⟨gx, 1, none⟩ = some (.int .i64 0) := (blk_cell hbox 1).trans rfl; have y0 := blk_frozen hbox 0; have y1 := blk_frozen hbox 1; have HXgx := Aside0.mk hbox; have HIgx := Aside0.mk hgx; have HBgx := Aside0.mk hb7; clear hbox hgx hb7))
  have HGX : Aside0 (w.heap.size ≤ gx) := ⟨Nat.le_of_eq HIgx.out.symm⟩
  have c6 := pw_cell_below HBgx.out c5
  have hold6 := hold _ HBgx.out
  go_upto_region 7 with (first | (go_at_call 40; with_reducible refine hold6.mono ?_; rintro e w7 ⟨rfl, hb7⟩; have HB7 := Aside0.mk (below_step HBgx.out hb7); have hg7 := blk_below HXgx.out hb7; have r0 := pw_cell_below HB7.out q0; have r1 := pw_cell_below HB7.out q1; have r5 := pw_cell_below HB7.out c5; clear hb7 hold6 z0 z1 y0 y1; have z0 := cell0 hg7; have z1 := cell1 hg7; have y0 := blk_frozen hg7 0; have y1 := blk_frozen hg7 1; have HG7 := Aside0.mk hg7; clear hg7))
  have HXA : Aside0 (((w7.setCell ⟨gx, 0, none⟩ (.int .i64 x.f0)).setCell ⟨gx, 1, none⟩ (.int .i64 x.f1)).heap[gx]? = some (.cells #[.int .i64 x.f0, .int .i64 x.f1] 77 (0, 0))) := ⟨blk_put (blk_put HG7.out 0 _ rfl) 1 _ rfl⟩
  have HBW : Aside0 (Below w.heap.size w ((w7.setCell ⟨gx, 0, none⟩ (.int .i64 x.f0)).setCell ⟨gx, 1, none⟩ (.int .i64 x.f1))) := ⟨(HB7.out.setCell (p := ⟨gx, 0, none⟩) HGX.out _).setCell (p := ⟨gx, 1, none⟩) HGX.out _⟩
  clear z0 z1 y0 y1 r0 r1 r5 c5 c6 q0 q1 hold
  generalize ((w7.setCell ⟨gx, 0, none⟩ (.int .i64 x.f0)).setCell ⟨gx, 1, none⟩ (.int .i64 x.f1)) = wq at *
  have x0 := cell0 HXA.out
  have HS2 := HS.out.below HBW.out
  obtain ⟨vq, hgq⟩ := as_blk HS2
  have c2 : wq.cell? ⟨g, 2, none⟩ = some (.int .i64 s.pos) := (blk_cell hgq 2).trans rfl
  have c3 : wq.cell? ⟨g, 3, none⟩ = some (.bool s.up) := (blk_cell hgq 3).trans rfl
  have HGB := Aside0.mk hgq
  have HS2 := Aside0.mk HS2
  clear hgq
  clear HG7 HB7 HXgx HIgx HBgx
  go_quiet (fail)
  have hbq := pw_below_drewN (Below.refl wq.heap.size wq) nq
  have hxq := blk_below HXA.out hbq
  have hsq := HS2.out.below hbq
  have hbwq := below_step HBW.out hbq
  clear HXA HS2 HGB c2 c3 x0 hbq
  generalize wq.drewN nq = wp at *
  have HXA := Aside0.mk hxq
  have hes : ({ s with up := u } : Sc) = s := by rw [hu]
  have HA : Aside0 (AS w0.heap.size P wp g { s with up := u } l) := ⟨by rw [hes]; exact hsq⟩
  have HBa : Aside0 (Below w0.heap.size w0 wp) := ⟨below_then HB0.out HB0.out.size hbwq⟩
  have HKa : Aside0 (Kept w wp P) := ⟨kept_below _ hbwq⟩
  clear hxq hsq hbwq hes hu HBW d2 d3 p1 p2 d1 hnl hx
  generalize wp = wa at *
  go_upto_region 10 with (fail)
  obtain ⟨va, hga⟩ := as_blk HA.out
  have c4 : wa.cell? ⟨g, 4, none⟩ = some (.int .i64 s.mv) := (blk_cell hga 4).trans rfl
  have x0 := cell0 HXA.out
  have hw1 : ∀ W, Below wa.heap.size wa W → Calls Try.prog 43 #[.pointer (some ⟨g, 0, none⟩), .int .i64 x.f0] W fun e w' => e = .returned (.int .i64 (wayI s.pos x.f0 s.per)) ∧ Below W.heap.size W w' := fun W hb => way_calls (s := { s with up := u }) x.f0 (HA.out.below hb) hpos hper HXB.out
  obtain ⟨d, hd⟩ : ∃ d, wayI s.pos x.f0 s.per = d := ⟨_, rfl⟩
  have hle := wayI_le s.pos x.f0 s.per hpos HXB.out hper
  rw [hd] at hle
  have EMV : Aside0 (wrap64 (s.mv + d) = s.mv + d) := ⟨by unfold wrap64; omega⟩
  have HD := Aside0.mk hd
  rw [hd] at hw1
  have HGA := Aside0.mk hga
  clear hga hd hle
  refine start_ (n := 12) (S := fun w' => w'.cell? ⟨g, 4, none⟩ = some (.int .i64 s.mv) ∧ w'.cell? ⟨gx, 0, none⟩ = some (.int .i64 x.f0)) (ds := [11]) #[false, false, false, false, false, false, false, false, false, false, false, false] (by kernel_rfl) rfl rfl ⟨c4, x0⟩ (fun hHeld => ?_); refine with_tabW next_tab10 next_bits10 (fun HT_ HW_ => ?_)
  refine pure_ (i := 0) (N := some 51) (v := ?_) (a' := ?_) #[true, false, false, false, false, false, false, false, false, false, false, false] rfl rfl (any_of HT_.out (by kernel_rfl)) (fun _ _ _ h => h) (Or.inl ⟨by rfl, ?_⟩) ?_ ?_
  rotate_left
  · intro w'
    go_simp
    with_reducible rfl
  rotate_left
  · simp only [Act.put, List.setIfInBounds_toArray, List.set_cons_zero, List.set_cons_succ]
    rfl
  refine pure_ (i := 1) (N := some 52) (v := ?_) (a' := ?_) #[true, true, false, false, false, false, false, false, false, false, false, false] rfl rfl (any_of HT_.out (by kernel_rfl)) (fun _ _ _ h => h) (Or.inl ⟨by rfl, ?_⟩) ?_ ?_
  rotate_left
  · intro w'
    go_simp
    with_reducible rfl
  rotate_left
  · simp only [Act.put, List.setIfInBounds_toArray, List.set_cons_zero, List.set_cons_succ]
    rfl
  refine pure_ (i := 2) (N := some 53) (v := ?_) (a' := ?_) #[true, true, true, false, false, false, false, false, false, false, false, false] rfl rfl (any_of HT_.out (by kernel_rfl)) (fun _ _ _ h => h) (Or.inl ⟨by rfl, ?_⟩) ?_ ?_
  rotate_left
  · intro w'
    go_simp
    with_reducible rfl
  rotate_left
  · simp only [Act.put, List.setIfInBounds_toArray, List.set_cons_zero, List.set_cons_succ]
    rfl
  refine take_ (i := 3) (N := some 54) (v := ?_) (a' := ?_) #[true, true, true, true, false, false, false, false, false, false, false, false] rfl rfl (take_ofW HT_.out HW_.out (by kernel_rfl)) (fun _ _ _ h => h) (Or.inl ⟨by rfl, ?_⟩) hHeld ?_ ?_
  rotate_left
  · rintro w' ⟨s0, s1⟩
    go_simp
    with_reducible rfl
  rotate_left
  · simp only [Act.put, List.setIfInBounds_toArray, List.set_cons_zero, List.set_cons_succ]
    rfl
  refine pure_ (i := 4) (N := some 55) (v := ?_) (a' := ?_) #[true, true, true, true, true, false, false, false, false, false, false, false] rfl rfl (any_of HT_.out (by kernel_rfl)) (fun _ _ _ h => h) (Or.inl ⟨by rfl, ?_⟩) ?_ ?_
  rotate_left
  · intro w'
    go_simp
    with_reducible rfl
  rotate_left
  · simp only [Act.put, List.setIfInBounds_toArray, List.set_cons_zero, List.set_cons_succ]
    rfl
  refine pure_ (i := 5) (N := some 56) (v := ?_) (a' := ?_) #[true, true, true, true, true, true, false, false, false, false, false, false] rfl rfl (any_of HT_.out (by kernel_rfl)) (fun _ _ _ h => h) (Or.inl ⟨by rfl, ?_⟩) ?_ ?_
  rotate_left
  · intro w'
    go_simp
    with_reducible rfl
  rotate_left
  · simp only [Act.put, List.setIfInBounds_toArray, List.set_cons_zero, List.set_cons_succ]
    rfl
  refine take_ (i := 6) (N := some 57) (v := ?_) (a' := ?_) #[true, true, true, true, true, true, true, false, false, false, false, false] rfl rfl (take_ofW HT_.out HW_.out (by kernel_rfl)) (fun _ _ _ h => h) (Or.inl ⟨by rfl, ?_⟩) hHeld ?_ ?_
  rotate_left
  · rintro w' ⟨s0, s1⟩
    go_simp
    with_reducible rfl
  rotate_left
  · simp only [Act.put, List.setIfInBounds_toArray, List.set_cons_zero, List.set_cons_succ]
    rfl
  refine one_ (i := 7) (N := some 58) #[true, true, true, true, true, true, true, true, false, false, false, false] rfl rfl (one_of HT_.out (by kernel_rfl)) (by decide) (fun K hK => ?_)
  refine goes_ Try.func43 (by kernel_rfl) rfl #[.pointer (some ⟨g, 0, none⟩), .int .i64 x.f0] (by rfl) rfl rfl (by (try simp only [List.map_toArray, List.map_cons, List.map_nil]); rfl) ?_
  with_reducible refine (hw1 _ (below_drew (Below.refl _ _))).mono ?_
  rintro e w2 ⟨rfl, hb2⟩
  have HB2 : Aside0 (Below wa.heap.size wa w2) := ⟨below_step (below_drew (Below.refl _ _)) hb2⟩
  refine ⟨_, rfl, ?_⟩
  have a0 := pw_cell_below hb2 hHeld.1
  have a1 := pw_cell_below hb2 hHeld.2
  clear hHeld
  refine hK.out _ _ ⟨a0, a1⟩ (fun hHeld => ?_)
  clear hK K
  refine norm_ (a' := ?_) ?_ ?_
  rotate_left
  · show Act.put _ (some 58) _ = _
    simp only [Act.put, List.setIfInBounds_toArray, List.set_cons_zero, List.set_cons_succ]
    rfl
  refine pure_ (i := 8) (N := some 59) (v := ?_) (a' := ?_) #[true, true, true, true, true, true, true, true, true, false, false, false] rfl rfl (any_of HT_.out (by kernel_rfl)) (fun _ _ _ h => h) (Or.inl ⟨by rfl, ?_⟩) ?_ ?_
  rotate_left
  · intro w'
    go_simp
    with_reducible rfl
  rotate_left
  · simp only [Act.put, List.setIfInBounds_toArray, List.set_cons_zero, List.set_cons_succ, i64_w]
    rfl
  refine pure_ (i := 9) (N := some 60) (v := ?_) (a' := ?_) #[true, true, true, true, true, true, true, true, true, true, false, false] rfl rfl (any_of HT_.out (by kernel_rfl)) (fun _ _ _ h => h) (Or.inl ⟨by rfl, ?_⟩) ?_ ?_
  rotate_left
  · intro w'
    go_simp
    with_reducible rfl
  rotate_left
  · simp only [Act.put, List.setIfInBounds_toArray, List.set_cons_zero, List.set_cons_succ]
    rfl
  refine pure_ (i := 10) (N := some 61) (v := ?_) (a' := ?_) #[true, true, true, true, true, true, true, true, true, true, true, false] rfl rfl (any_of HT_.out (by kernel_rfl)) (fun _ _ _ h => h) (Or.inl ⟨by rfl, ?_⟩) ?_ ?_
  rotate_left
  · intro w'
    go_simp
    with_reducible rfl
  rotate_left
  · simp only [Act.put, List.setIfInBounds_toArray, List.set_cons_zero, List.set_cons_succ]
    rfl
  refine last_ (i := 11) (N := none) #[true, true, true, true, true, true, true, true, true, true, true, true] rfl rfl (one_of HT_.out (by kernel_rfl)) (by decide) (fun K hK => ?_)
  have hs8 := hHeld.1
  have hf8 := blk_frozen (blk_below HGA.out HB2.out) 4
  refine skip_ (w1 := ?_) (by rfl) rfl ?_ ?_
  rotate_left
  · go_simp
    rfl
  refine hK.out _ _ ?_
  clear hK K
  refine done_ (done_of HT_.out (by kernel_rfl)) ?_
  simp only [EMV.out]
  obtain ⟨ha2, hk2⟩ := AS.setc (HA.out.below HB2.out) 4 (.int .i64 (s.mv + d)) { s with up := u, mv := s.mv + d } (fun _ => rfl)
  have hgx : gx ≠ g := fun e => absurd (HP.out g HS.out.mine) (by rw [← e]; exact Nat.not_lt.2 HGX.out)
  have hx2 : (w2.setCell ⟨g, 4, none⟩ (.int .i64 (s.mv + d))).heap[gx]? = some (.cells #[.int .i64 x.f0, .int .i64 x.f1] 77 (0, 0)) := (Below.heap_setCell _ _ _ gx hgx).trans (blk_below HXA.out HB2.out)
  have hb2 : Below w0.heap.size w0 (w2.setCell ⟨g, 4, none⟩ (.int .i64 (s.mv + d))) := (below_then HBa.out HBa.out.size HB2.out).setCell (p := ⟨g, 4, none⟩) HS.out.base _
  have hk3 : Kept w (w2.setCell ⟨g, 4, none⟩ (.int .i64 (s.mv + d))) P := kept_trans HKa.out (kept_trans (kept_below P HB2.out) hk2)
  clear hw1 x0 c4 a0 a1 hk2 HKa HBa HGA hHeld hs8 hf8
  generalize w2.setCell ⟨g, 4, none⟩ (.int .i64 (s.mv + d)) = wb at *
  obtain ⟨vb, hgb⟩ := as_blk ha2
  have c2 : wb.cell? ⟨g, 2, none⟩ = some (.int .i64 s.pos) := (blk_cell hgb 2).trans rfl
  have f2 := blk_frozen hgb 2
  have x0 := cell0 hx2
  have HA2 := Aside0.mk ha2
  have HX2 := Aside0.mk hx2
  have HBb := Aside0.mk hb2
  have HKb := Aside0.mk hk3
  clear ha2 hx2 hb2 hk3 hgb
  go_upto_region 12 with (fail)
  obtain ⟨ha3, hk4⟩ := AS.setc HA2.out 2 (.int .i64 x.f0) { s with up := u, mv := s.mv + d, pos := x.f0 } (fun _ => rfl)
  have hx3 : (wb.setCell ⟨g, 2, none⟩ (.int .i64 x.f0)).heap[gx]? = some (.cells #[.int .i64 x.f0, .int .i64 x.f1] 77 (0, 0)) := (Below.heap_setCell _ _ _ gx hgx).trans HX2.out
  have hb3 : Below w0.heap.size w0 (wb.setCell ⟨g, 2, none⟩ (.int .i64 x.f0)) := HBb.out.setCell (p := ⟨g, 2, none⟩) HS.out.base _
  have hk5 : Kept w (wb.setCell ⟨g, 2, none⟩ (.int .i64 x.f0)) P := kept_trans HKb.out hk4
  clear c2 f2 x0 hk4
  generalize wb.setCell ⟨g, 2, none⟩ (.int .i64 x.f0) = wc at *
  have x0 := cell0 hx3
  have hcan := Cancel_calls g P _ l x.f0 w0 wc hb3 ha3 hn
  have HX3 := Aside0.mk hx3
  have HKc := Aside0.mk hk5
  clear ha3 hb3 hx3 hk5
  have hml := cancel_len l x.f0
  have hmm : ∀ y ∈ (cancelA l x.f0).2, y.f1 < 1000000 ∧ 0 ≤ y.f1 := fun y hy => HAGE.out y (cancel_mem hy)
  obtain ⟨m, hm⟩ : ∃ m, (cancelA l x.f0).2 = m := ⟨_, rfl⟩
  have HM : Aside0 (dropA l x.f0 = m.map older) := ⟨by unfold dropA; rw [hm]⟩
  rw [hm] at hcan hml hmm
  have HMM := Aside0.mk hmm
  have hmn : m.length < 1000 := Nat.lt_of_le_of_lt hml hn
  clear hm hmm hml
  go_upto_region 13 with (go_at_call 27; with_reducible refine hcan.mono ?_; rintro e wd ⟨rfl, had, hbd, hkd⟩; have HAD := Aside0.mk had; have HBD := Aside0.mk hbd; have HKD := Aside0.mk (kept_trans HKc.out hkd); have HXD : Aside0 (wd.heap[gx]? = some (.cells #[.int .i64 x.f0, .int .i64 x.f1] 77 (0, 0))) := ⟨(kept_blk hkd gx (blk_lt HX3.out) (fun h => absurd (HP.out gx h) (Nat.not_lt.2 HGX.out))).trans HX3.out⟩; clear had hbd hkd hcan)
  have c5 : ∃ A5 cp5, wd.cell? ⟨g, 5, none⟩ = some (.slice A5 m.length cp5) := by
    obtain ⟨-, -, v5, hg5, hR5⟩ := HAD.out
    obtain ⟨A5, cp5, rfl, -, -⟩ := Kd.R_reads hR5
    exact ⟨A5, cp5, (blk_cell hg5 5).trans rfl⟩
  obtain ⟨A5, cp5, c5⟩ := c5
  clear x0
  go_wp2
  go_loopg [6, 76] m.length (fun kq _ v76 w' => ∃ i : Nat, i + kq = m.length ∧ v76 = .int .i64 (i : Int) ∧ Aside0 (AS w0.heap.size P w' g { s with up := u, mv := s.mv + d, pos := x.f0 } ((m.take i).map older ++ m.drop i)) ∧ Aside0 (Below w0.heap.size w0 w') ∧ Aside0 (Kept w w' P) ∧ Aside0 (w'.heap[gx]? = some (.cells #[.int .i64 x.f0, .int .i64 x.f1] 77 (0, 0))))
  case atStart => exact ⟨0, by omega, rfl, ⟨by simpa using HAD.out⟩, HBD, HKD, HXD⟩
  case round =>
    obtain ⟨i, hi, rfl, HAi, HBi, HKi, HXi⟩ := hrel
    clear HAD HBD HKD HXD c5
    cases gk with
    | zero =>
      obtain rfl : i = m.length := by omega
      have c0 : decide ((m.length : Int) < (m.length : Int)) = false := by simp
      have x0 := cell0 HXi.out
      go_wp2
      go_ret2
      refine ⟨rfl, ?_, HBi.out, HKi.out⟩
      have := HAi.out
      rw [List.take_length, List.drop_length, List.append_nil, ← HM.out, ← HD.out] at this
      exact this
    | succ k1 =>
      have hlt : i < m.length := by omega
      have c0 : decide ((i : Int) < (m.length : Int)) = true := by simp; omega
      have el : ((m.take i).map older ++ m.drop i).length = m.length := by simp; omega
      obtain ⟨gr, cap, hg6, hR6, hne6, hP6, hB6, hl6, hc6, -⟩ := as_open HAi.out (by rw [el]; omega)
      obtain ⟨q0, q1⟩ := (as_cells hR6 i (by rw [el]; exact hlt)).1
      have qf := (as_cells hR6 i (by rw [el]; exact hlt)).2 1
      have egi : ((m.take i).map older ++ m.drop i)[i]'(by rw [el]; exact hlt) = m[i] := by
        exact older_get m i hlt _
      rw [egi] at q0 q1
      rw [el] at hg6 hR6
      have c5 : wr.cell? ⟨g, 5, none⟩ = some (.slice (some ⟨gr, 0, none⟩) m.length cap) := (blk_cell hg6 5).trans rfl
      have p1 : (0 ≤ (i : Int)) = True := eq_true (by omega)
      have p2 : ((i : Int) < (m.length : Int)) = True := eq_true (by omega)
      have hag := HMM.out m[i] (List.getElem_mem hlt)
      have ewi : Aside0 (wrap64 ((i : Int) + 1) = ((i + 1 : Nat) : Int)) := ⟨by unfold wrap64; omega⟩
      have ewa : wrap64 (m[i].f1 + 1) = m[i].f1 + 1 := by unfold wrap64; omega
      have eset : ((m.take i).map older ++ m.drop i).set i ⟨m[i].f0, m[i].f1 + 1⟩ = (m.take (i + 1)).map older ++ m.drop (i + 1) := older_set m i hlt
      obtain ⟨r1, r2⟩ := as_put (l := (m.take i).map older ++ m.drop i) hR6 i (by rw [el]; exact hlt) (m[i].f1 + 1)
      rw [egi, eset] at r1
      have hput := AS.put (l := (m.take i).map older ++ m.drop i) (row2 := (m.take (i + 1)).map older ++ m.drop (i + 1)) (s := { s with up := u, mv := s.mv + d, pos := x.f0 }) HS.out.base HS.out.mine hP6 hne6 (by simp; omega) (by rw [el]; exact hg6) (by rw [el]; exact r1) r2
      have hBp := below_grown HBi.out r2 hB6 HBi.out.size
      have hXp : (wr.setCell ⟨gr, i * 2 + 1, none⟩ (.int .i64 (m[i].f1 + 1))).heap[gx]? = some (.cells #[.int .i64 x.f0, .int .i64 x.f1] 77 (0, 0)) := (Below.heap_setCell _ _ _ gx (fun e => absurd (HP.out gr hP6) (by rw [← show gx = gr from e]; exact Nat.not_lt.2 HGX.out))).trans HXi.out
      have HPUT := Aside0.mk hput
      have HBP := Aside0.mk hBp
      have HXP := Aside0.mk hXp
      clear r1 r2 hput hBp hXp eset egi hg6 hR6 hag q0
      generalize m[i].f1 = ag0 at *
      go_wp2
      go_roundg k1
      case rel => exact ⟨i + 1, by omega, by first | rfl | rw [ewi.out], ⟨HPUT.out.1⟩, HBP, ⟨kept_trans HKi.out HPUT.out.2⟩, HXP⟩
      all_goals omega

set_option maxRecDepth 100000 in
set_option maxHeartbeats 4000000 in
theorem Next_diff (g : Nat) (P : Nat → Prop) (s : Sc) (l : List S77) (w0 w : World) (hB : Below w0.heap.size w0 w) (h : AS w0.heap.size P w g s l) (hn : l.length < 1000) (h0 : 0 < l.length) (hP : ∀ k, P k → k < w.heap.size) (hpos : Bl s.pos) (hper : Tr s.per) (hall : ∀ x ∈ l, Bl x.f0) (hage : ∀ x ∈ l, x.f1 < 1000000 ∧ 0 ≤ x.f1) (hmv : 0 ≤ s.mv ∧ s.mv < 1000000000) (x : S77) (u : Bool) (n : Nat) (hnl : n < l.length) (hix : oldix l = (n : Int)) (hx : l[n] = x) (hs : x.f0 ≠ s.pos) (hu : u = decide (s.pos < x.f0)) :
    Calls Try.prog 20 #[.pointer (some ⟨g, 0, none⟩)] w fun e w' => e = .returned (.tuple #[.int .i64 x.f0, .bool true]) ∧ AS w0.heap.size P w' g (goA s (x, u)) (dropA l x.f0) ∧ Below w0.heap.size w0 w' ∧ Kept w w' P := by
  have hxm : x ∈ l := by rw [← hx]; exact List.getElem_mem hnl
  have HS := Aside0.mk h
  have HB0 := Aside0.mk hB
  have HP := Aside0.mk hP
  have HAGE := Aside0.mk hage
  have HXB := Aside0.mk (hall x hxm)
  obtain ⟨gr0, cap0, hg, hR, hne0, hP0, hB00, hl0, hc0, hC0⟩ := as_open h h0
  have c5 : w.cell? ⟨g, 5, none⟩ = some (.slice (some ⟨gr0, 0, none⟩) l.length cap0) := (blk_cell hg 5).trans rfl
  have hold : ∀ W, Below w.heap.size w W → Calls Try.prog 40 #[.slice (some ⟨gr0, 0, none⟩) l.length cap0, .func (.func 41) #[] #[]] W fun e w' => e = .returned (.int .i64 (oldix l)) ∧ Below W.heap.size W w' := fun W hb => idxold_calls (some ⟨gr0, 0, none⟩) cap0 l W (Kd.C_below hC0 hb) (by omega)
  have d0 : ((l.length : Int) == 0) = false := by rw [beq_eq_false_iff_ne]; omega
  have HR := Aside0.mk hR
  have HG := Aside0.mk hg
  obtain ⟨q0, q1⟩ := (as_cells hR n hnl).1
  rw [hx] at q0 q1
  rw [hix] at hold
  have d1 : decide (0 ≤ (n : Int)) = true := by simp
  have p1 : (0 ≤ (n : Int)) = True := eq_true (by omega)
  have p2 : ((n : Int) < (l.length : Int)) = True := eq_true (by omega)
  have d2 : (x.f0 == s.pos) = false := beq_eq_false_iff_ne.2 hs
  have d3 : (x.f0 != s.pos) = true := by rw [bne, d2]; rfl
  clear h hB hP hage hall hR hg hC0 hix hs
  go_enter Try.func20, Try.ntmps20
  go_upto_region 4 with (first | ((with_reducible refine gate_dst (N := 4) rfl ?_); refine box_event ?hg (N := 4) ?hd (cs := #[.int .i64 0, .int .i64 0]) (t := 77) ?hr ?_; (case hd => rfl); (case hg => rfl); (case hr => first | (go_simp; done) | (go_simp; rfl)); intro gx hgx w6 hbox hb7; have z0 : w6.cell? ⟨gx, 0, none⟩ = some (.int .i64 0) := (blk_cell hbox 0).trans rfl; have z1 : w6.cell? ⟨gx, 1, none⟩ = some (.int .i64 0) := (blk_cell hbox 1).trans rfl; have y0 := blk_frozen hbox 0; have y1 := blk_frozen hbox 1; have HXgx := Aside0.mk hbox; have HIgx := Aside0.mk hgx; have HBgx := Aside0.mk hb7; clear hbox hgx hb7))
  have HGX : Aside0 (w.heap.size ≤ gx) := ⟨Nat.le_of_eq HIgx.out.symm⟩
  have c6 := pw_cell_below HBgx.out c5
  have hold6 := hold _ HBgx.out
  go_upto_region 7 with (first | (go_at_call 40; with_reducible refine hold6.mono ?_; rintro e w7 ⟨rfl, hb7⟩; have HB7 := Aside0.mk (below_step HBgx.out hb7); have hg7 := blk_below HXgx.out hb7; have r0 := pw_cell_below HB7.out q0; have r1 := pw_cell_below HB7.out q1; have r5 := pw_cell_below HB7.out c5; clear hb7 hold6 z0 z1 y0 y1; have z0 := cell0 hg7; have z1 := cell1 hg7; have y0 := blk_frozen hg7 0; have y1 := blk_frozen hg7 1; have HG7 := Aside0.mk hg7; clear hg7))
  have HXA : Aside0 (((w7.setCell ⟨gx, 0, none⟩ (.int .i64 x.f0)).setCell ⟨gx, 1, none⟩ (.int .i64 x.f1)).heap[gx]? = some (.cells #[.int .i64 x.f0, .int .i64 x.f1] 77 (0, 0))) := ⟨blk_put (blk_put HG7.out 0 _ rfl) 1 _ rfl⟩
  have HBW : Aside0 (Below w.heap.size w ((w7.setCell ⟨gx, 0, none⟩ (.int .i64 x.f0)).setCell ⟨gx, 1, none⟩ (.int .i64 x.f1))) := ⟨(HB7.out.setCell (p := ⟨gx, 0, none⟩) HGX.out _).setCell (p := ⟨gx, 1, none⟩) HGX.out _⟩
  clear z0 z1 y0 y1 r0 r1 r5 c5 c6 q0 q1 hold
  generalize ((w7.setCell ⟨gx, 0, none⟩ (.int .i64 x.f0)).setCell ⟨gx, 1, none⟩ (.int .i64 x.f1)) = wq at *
  have x0 := cell0 HXA.out
  have HS2 := HS.out.below HBW.out
  obtain ⟨vq, hgq⟩ := as_blk HS2
  have c2 : wq.cell? ⟨g, 2, none⟩ = some (.int .i64 s.pos) := (blk_cell hgq 2).trans rfl
  have c3 : wq.cell? ⟨g, 3, none⟩ = some (.bool s.up) := (blk_cell hgq 3).trans rfl
  have HGB := Aside0.mk hgq
  have HS2 := Aside0.mk HS2
  clear hgq
  clear HG7 HB7 HXgx HIgx HBgx
  go_quiet (fail)
  have hbq := pw_below_drewN (Below.refl wq.heap.size wq) nq
  have hxq := blk_below HXA.out hbq
  have hsq := HS2.out.below hbq
  have hbwq := below_step HBW.out hbq
  clear HXA HS2 HGB c2 c3 x0 hbq
  generalize wq.drewN nq = wp at *
  obtain ⟨vp, hgp⟩ := as_blk hsq
  have c2 : wp.cell? ⟨g, 2, none⟩ = some (.int .i64 s.pos) := (blk_cell hgp 2).trans rfl
  have c3 : wp.cell? ⟨g, 3, none⟩ = some (.bool s.up) := (blk_cell hgp 3).trans rfl
  have x0 := cell0 hxq
  have HGB := Aside0.mk hgp
  have HSQ := Aside0.mk hsq
  have HXQ := Aside0.mk hxq
  have HBQ := Aside0.mk hbwq
  have HU := Aside0.mk hu
  clear hgp hsq hxq hbwq HBW hu hnl hx p1 p2 d1 d2 vq
  go_upto_region 8 with (fail)
  refine start_ (n := 11) (S := fun w' => w'.cell? ⟨g, 2, none⟩ = some (.int .i64 s.pos) ∧ w'.cell? ⟨g, 3, none⟩ = some (.bool s.up) ∧ w'.cell? ⟨gx, 0, none⟩ = some (.int .i64 x.f0)) (ds := [10]) #[false, false, false, false, false, false, false, false, false, false, false] (by kernel_rfl) rfl rfl ⟨c2, c3, x0⟩ (fun hHeld => ?_); refine with_tabW next_tab8 next_bits8 (fun HT_ HW_ => ?_)
  refine pure_ (i := 0) (N := some 38) (v := ?_) (a' := ?_) #[true, false, false, false, false, false, false, false, false, false, false] rfl rfl (any_of HT_.out (by kernel_rfl)) (fun _ _ _ h => h) (Or.inl ⟨by rfl, ?_⟩) ?_ ?_
  rotate_left
  · intro w'
    go_simp
    with_reducible rfl
  rotate_left
  · simp only [Act.put, List.setIfInBounds_toArray, List.set_cons_zero, List.set_cons_succ]
    rfl
  refine pure_ (i := 1) (N := some 39) (v := ?_) (a' := ?_) #[true, true, false, false, false, false, false, false, false, false, false] rfl rfl (any_of HT_.out (by kernel_rfl)) (fun _ _ _ h => h) (Or.inl ⟨by rfl, ?_⟩) ?_ ?_
  rotate_left
  · intro w'
    go_simp
    with_reducible rfl
  rotate_left
  · simp only [Act.put, List.setIfInBounds_toArray, List.set_cons_zero, List.set_cons_succ]
    rfl
  refine take_ (i := 2) (N := some 40) (v := ?_) (a' := ?_) #[true, true, true, false, false, false, false, false, false, false, false] rfl rfl (take_ofW HT_.out HW_.out (by kernel_rfl)) (fun _ _ _ h => h) (Or.inl ⟨by rfl, ?_⟩) hHeld ?_ ?_
  rotate_left
  · rintro w' ⟨s0, s1, s2⟩
    go_simp
    with_reducible rfl
  rotate_left
  · simp only [Act.put, List.setIfInBounds_toArray, List.set_cons_zero, List.set_cons_succ]
    rfl
  refine pure_ (i := 3) (N := some 41) (v := ?_) (a' := ?_) #[true, true, true, true, false, false, false, false, false, false, false] rfl rfl (any_of HT_.out (by kernel_rfl)) (fun _ _ _ h => h) (Or.inl ⟨by rfl, ?_⟩) ?_ ?_
  rotate_left
  · intro w'
    go_simp
    with_reducible rfl
  rotate_left
  · simp only [Act.put, List.setIfInBounds_toArray, List.set_cons_zero, List.set_cons_succ]
    rfl
  refine pure_ (i := 4) (N := some 42) (v := ?_) (a' := ?_) #[true, true, true, true, true, false, false, false, false, false, false] rfl rfl (any_of HT_.out (by kernel_rfl)) (fun _ _ _ h => h) (Or.inl ⟨by rfl, ?_⟩) ?_ ?_
  rotate_left
  · intro w'
    go_simp
    with_reducible rfl
  rotate_left
  · simp only [Act.put, List.setIfInBounds_toArray, List.set_cons_zero, List.set_cons_succ]
    rfl
  refine pure_ (i := 5) (N := some 43) (v := ?_) (a' := ?_) #[true, true, true, true, true, true, false, false, false, false, false] rfl rfl (any_of HT_.out (by kernel_rfl)) (fun _ _ _ h => h) (Or.inl ⟨by rfl, ?_⟩) ?_ ?_
  rotate_left
  · intro w'
    go_simp
    with_reducible rfl
  rotate_left
  · simp only [Act.put, List.setIfInBounds_toArray, List.set_cons_zero, List.set_cons_succ]
    rfl
  refine take_ (i := 6) (N := some 44) (v := ?_) (a' := ?_) #[true, true, true, true, true, true, true, false, false, false, false] rfl rfl (take_ofW HT_.out HW_.out (by kernel_rfl)) (fun _ _ _ h => h) (Or.inl ⟨by rfl, ?_⟩) hHeld ?_ ?_
  rotate_left
  · rintro w' ⟨s0, s1, s2⟩
    go_simp
    with_reducible rfl
  rotate_left
  · simp only [Act.put, List.setIfInBounds_toArray, List.set_cons_zero, List.set_cons_succ]
    rfl
  refine pure_ (i := 7) (N := some 45) (v := ?_) (a' := ?_) #[true, true, true, true, true, true, true, true, false, false, false] rfl rfl (any_of HT_.out (by kernel_rfl)) (fun _ _ _ h => h) (Or.inl ⟨by rfl, ?_⟩) ?_ ?_
  rotate_left
  · intro w'
    go_simp
    with_reducible rfl
  rotate_left
  · simp only [Act.put, List.setIfInBounds_toArray, List.set_cons_zero, List.set_cons_succ]
    rfl
  refine pure_ (i := 8) (N := some 46) (v := ?_) (a' := ?_) #[true, true, true, true, true, true, true, true, true, false, false] rfl rfl (any_of HT_.out (by kernel_rfl)) (fun _ _ _ h => h) (Or.inl ⟨by rfl, ?_⟩) ?_ ?_
  rotate_left
  · intro w'
    go_simp
    with_reducible rfl
  rotate_left
  · simp only [Act.put, List.setIfInBounds_toArray, List.set_cons_zero, List.set_cons_succ]
    rfl
  refine pure_ (i := 9) (N := some 47) (v := ?_) (a' := ?_) #[true, true, true, true, true, true, true, true, true, true, false] rfl rfl (any_of HT_.out (by kernel_rfl)) (fun _ _ _ h => h) (Or.inl ⟨by rfl, ?_⟩) ?_ ?_
  rotate_left
  · intro w'
    go_simp
    with_reducible rfl
  rotate_left
  · simp only [Act.put, List.setIfInBounds_toArray, List.set_cons_zero, List.set_cons_succ]
    rfl
  refine last_ (i := 10) (N := none) #[true, true, true, true, true, true, true, true, true, true, true] rfl rfl (one_of HT_.out (by kernel_rfl)) (by decide) (fun K hK => ?_)
  have hs8 := hHeld.2.1
  have hf8 := blk_frozen (blk_drew HGB.out) 3
  refine skip_ (w1 := ?_) (by rfl) rfl ?_ ?_
  rotate_left
  · go_simp
    rfl
  refine hK.out _ _ ?_
  clear hK K
  refine done_ (done_of HT_.out (by kernel_rfl)) ?_
  have hgx : gx ≠ g := fun e => absurd (HP.out g HS.out.mine) (by rw [← e]; exact Nat.not_lt.2 HGX.out)
  simp only [← HU.out]
  clear c2 c3 x0 hs8 hf8 hHeld d3
  go_upto_region 10 with (fail)
  obtain ⟨ha2, hk2⟩ := AS.setc HSQ.out 3 (.bool u) { s with up := u } (fun _ => rfl)
  have HXA : Aside0 ((wp.setCell ⟨g, 3, none⟩ (.bool u)).drew.heap[gx]? = some (.cells #[.int .i64 x.f0, .int .i64 x.f1] 77 (0, 0))) := ⟨blk_drew ((Below.heap_setCell _ _ _ gx hgx).trans HXQ.out)⟩
  have HA := Aside0.mk (ha2.below (below_drew (Below.refl _ _)))
  have HBa : Aside0 (Below w0.heap.size w0 (wp.setCell ⟨g, 3, none⟩ (.bool u)).drew) := ⟨below_drew ((below_then HB0.out HB0.out.size HBQ.out).setCell (p := ⟨g, 3, none⟩) HS.out.base _)⟩
  have HKa : Aside0 (Kept w (wp.setCell ⟨g, 3, none⟩ (.bool u)).drew P) := ⟨kept_trans (kept_trans (kept_below P HBQ.out) hk2) (kept_below P (below_drew (Below.refl _ _)))⟩
  clear ha2 hk2 hgx
  generalize (wp.setCell ⟨g, 3, none⟩ (.bool u)).drew = wa at *
  obtain ⟨va, hga⟩ := as_blk HA.out
  have c4 : wa.cell? ⟨g, 4, none⟩ = some (.int .i64 s.mv) := (blk_cell hga 4).trans rfl
  have x0 := cell0 HXA.out
  have hw1 : ∀ W, Below wa.heap.size wa W → Calls Try.prog 43 #[.pointer (some ⟨g, 0, none⟩), .int .i64 x.f0] W fun e w' => e = .returned (.int .i64 (wayI s.pos x.f0 s.per)) ∧ Below W.heap.size W w' := fun W hb => way_calls (s := { s with up := u }) x.f0 (HA.out.below hb) hpos hper HXB.out
  obtain ⟨d, hd⟩ : ∃ d, wayI s.pos x.f0 s.per = d := ⟨_, rfl⟩
  have hle := wayI_le s.pos x.f0 s.per hpos HXB.out hper
  rw [hd] at hle
  have EMV : Aside0 (wrap64 (s.mv + d) = s.mv + d) := ⟨by unfold wrap64; omega⟩
  have HD := Aside0.mk hd
  rw [hd] at hw1
  have HGA := Aside0.mk hga
  clear hga hd hle
  refine start_ (n := 12) (S := fun w' => w'.cell? ⟨g, 4, none⟩ = some (.int .i64 s.mv) ∧ w'.cell? ⟨gx, 0, none⟩ = some (.int .i64 x.f0)) (ds := [11]) #[false, false, false, false, false, false, false, false, false, false, false, false] (by kernel_rfl) rfl rfl ⟨c4, x0⟩ (fun hHeld => ?_); refine with_tabW next_tab10 next_bits10 (fun HT_ HW_ => ?_)
  refine pure_ (i := 0) (N := some 51) (v := ?_) (a' := ?_) #[true, false, false, false, false, false, false, false, false, false, false, false] rfl rfl (any_of HT_.out (by kernel_rfl)) (fun _ _ _ h => h) (Or.inl ⟨by rfl, ?_⟩) ?_ ?_
  rotate_left
  · intro w'
    go_simp
    with_reducible rfl
  rotate_left
  · simp only [Act.put, List.setIfInBounds_toArray, List.set_cons_zero, List.set_cons_succ]
    rfl
  refine pure_ (i := 1) (N := some 52) (v := ?_) (a' := ?_) #[true, true, false, false, false, false, false, false, false, false, false, false] rfl rfl (any_of HT_.out (by kernel_rfl)) (fun _ _ _ h => h) (Or.inl ⟨by rfl, ?_⟩) ?_ ?_
  rotate_left
  · intro w'
    go_simp
    with_reducible rfl
  rotate_left
  · simp only [Act.put, List.setIfInBounds_toArray, List.set_cons_zero, List.set_cons_succ]
    rfl
  refine pure_ (i := 2) (N := some 53) (v := ?_) (a' := ?_) #[true, true, true, false, false, false, false, false, false, false, false, false] rfl rfl (any_of HT_.out (by kernel_rfl)) (fun _ _ _ h => h) (Or.inl ⟨by rfl, ?_⟩) ?_ ?_
  rotate_left
  · intro w'
    go_simp
    with_reducible rfl
  rotate_left
  · simp only [Act.put, List.setIfInBounds_toArray, List.set_cons_zero, List.set_cons_succ]
    rfl
  refine take_ (i := 3) (N := some 54) (v := ?_) (a' := ?_) #[true, true, true, true, false, false, false, false, false, false, false, false] rfl rfl (take_ofW HT_.out HW_.out (by kernel_rfl)) (fun _ _ _ h => h) (Or.inl ⟨by rfl, ?_⟩) hHeld ?_ ?_
  rotate_left
  · rintro w' ⟨s0, s1⟩
    go_simp
    with_reducible rfl
  rotate_left
  · simp only [Act.put, List.setIfInBounds_toArray, List.set_cons_zero, List.set_cons_succ]
    rfl
  refine pure_ (i := 4) (N := some 55) (v := ?_) (a' := ?_) #[true, true, true, true, true, false, false, false, false, false, false, false] rfl rfl (any_of HT_.out (by kernel_rfl)) (fun _ _ _ h => h) (Or.inl ⟨by rfl, ?_⟩) ?_ ?_
  rotate_left
  · intro w'
    go_simp
    with_reducible rfl
  rotate_left
  · simp only [Act.put, List.setIfInBounds_toArray, List.set_cons_zero, List.set_cons_succ]
    rfl
  refine pure_ (i := 5) (N := some 56) (v := ?_) (a' := ?_) #[true, true, true, true, true, true, false, false, false, false, false, false] rfl rfl (any_of HT_.out (by kernel_rfl)) (fun _ _ _ h => h) (Or.inl ⟨by rfl, ?_⟩) ?_ ?_
  rotate_left
  · intro w'
    go_simp
    with_reducible rfl
  rotate_left
  · simp only [Act.put, List.setIfInBounds_toArray, List.set_cons_zero, List.set_cons_succ]
    rfl
  refine take_ (i := 6) (N := some 57) (v := ?_) (a' := ?_) #[true, true, true, true, true, true, true, false, false, false, false, false] rfl rfl (take_ofW HT_.out HW_.out (by kernel_rfl)) (fun _ _ _ h => h) (Or.inl ⟨by rfl, ?_⟩) hHeld ?_ ?_
  rotate_left
  · rintro w' ⟨s0, s1⟩
    go_simp
    with_reducible rfl
  rotate_left
  · simp only [Act.put, List.setIfInBounds_toArray, List.set_cons_zero, List.set_cons_succ]
    rfl
  refine one_ (i := 7) (N := some 58) #[true, true, true, true, true, true, true, true, false, false, false, false] rfl rfl (one_of HT_.out (by kernel_rfl)) (by decide) (fun K hK => ?_)
  refine goes_ Try.func43 (by kernel_rfl) rfl #[.pointer (some ⟨g, 0, none⟩), .int .i64 x.f0] (by rfl) rfl rfl (by (try simp only [List.map_toArray, List.map_cons, List.map_nil]); rfl) ?_
  with_reducible refine (hw1 _ (below_drew (Below.refl _ _))).mono ?_
  rintro e w2 ⟨rfl, hb2⟩
  have HB2 : Aside0 (Below wa.heap.size wa w2) := ⟨below_step (below_drew (Below.refl _ _)) hb2⟩
  refine ⟨_, rfl, ?_⟩
  have a0 := pw_cell_below hb2 hHeld.1
  have a1 := pw_cell_below hb2 hHeld.2
  clear hHeld
  refine hK.out _ _ ⟨a0, a1⟩ (fun hHeld => ?_)
  clear hK K
  refine norm_ (a' := ?_) ?_ ?_
  rotate_left
  · show Act.put _ (some 58) _ = _
    simp only [Act.put, List.setIfInBounds_toArray, List.set_cons_zero, List.set_cons_succ]
    rfl
  refine pure_ (i := 8) (N := some 59) (v := ?_) (a' := ?_) #[true, true, true, true, true, true, true, true, true, false, false, false] rfl rfl (any_of HT_.out (by kernel_rfl)) (fun _ _ _ h => h) (Or.inl ⟨by rfl, ?_⟩) ?_ ?_
  rotate_left
  · intro w'
    go_simp
    with_reducible rfl
  rotate_left
  · simp only [Act.put, List.setIfInBounds_toArray, List.set_cons_zero, List.set_cons_succ, i64_w]
    rfl
  refine pure_ (i := 9) (N := some 60) (v := ?_) (a' := ?_) #[true, true, true, true, true, true, true, true, true, true, false, false] rfl rfl (any_of HT_.out (by kernel_rfl)) (fun _ _ _ h => h) (Or.inl ⟨by rfl, ?_⟩) ?_ ?_
  rotate_left
  · intro w'
    go_simp
    with_reducible rfl
  rotate_left
  · simp only [Act.put, List.setIfInBounds_toArray, List.set_cons_zero, List.set_cons_succ]
    rfl
  refine pure_ (i := 10) (N := some 61) (v := ?_) (a' := ?_) #[true, true, true, true, true, true, true, true, true, true, true, false] rfl rfl (any_of HT_.out (by kernel_rfl)) (fun _ _ _ h => h) (Or.inl ⟨by rfl, ?_⟩) ?_ ?_
  rotate_left
  · intro w'
    go_simp
    with_reducible rfl
  rotate_left
  · simp only [Act.put, List.setIfInBounds_toArray, List.set_cons_zero, List.set_cons_succ]
    rfl
  refine last_ (i := 11) (N := none) #[true, true, true, true, true, true, true, true, true, true, true, true] rfl rfl (one_of HT_.out (by kernel_rfl)) (by decide) (fun K hK => ?_)
  have hs8 := hHeld.1
  have hf8 := blk_frozen (blk_below HGA.out HB2.out) 4
  refine skip_ (w1 := ?_) (by rfl) rfl ?_ ?_
  rotate_left
  · go_simp
    rfl
  refine hK.out _ _ ?_
  clear hK K
  refine done_ (done_of HT_.out (by kernel_rfl)) ?_
  simp only [EMV.out]
  obtain ⟨ha2, hk2⟩ := AS.setc (HA.out.below HB2.out) 4 (.int .i64 (s.mv + d)) { s with up := u, mv := s.mv + d } (fun _ => rfl)
  have hgx : gx ≠ g := fun e => absurd (HP.out g HS.out.mine) (by rw [← e]; exact Nat.not_lt.2 HGX.out)
  have hx2 : (w2.setCell ⟨g, 4, none⟩ (.int .i64 (s.mv + d))).heap[gx]? = some (.cells #[.int .i64 x.f0, .int .i64 x.f1] 77 (0, 0)) := (Below.heap_setCell _ _ _ gx hgx).trans (blk_below HXA.out HB2.out)
  have hb2 : Below w0.heap.size w0 (w2.setCell ⟨g, 4, none⟩ (.int .i64 (s.mv + d))) := (below_then HBa.out HBa.out.size HB2.out).setCell (p := ⟨g, 4, none⟩) HS.out.base _
  have hk3 : Kept w (w2.setCell ⟨g, 4, none⟩ (.int .i64 (s.mv + d))) P := kept_trans HKa.out (kept_trans (kept_below P HB2.out) hk2)
  clear hw1 x0 c4 a0 a1 hk2 HKa HBa HGA hHeld hs8 hf8
  generalize w2.setCell ⟨g, 4, none⟩ (.int .i64 (s.mv + d)) = wb at *
  obtain ⟨vb, hgb⟩ := as_blk ha2
  have c2 : wb.cell? ⟨g, 2, none⟩ = some (.int .i64 s.pos) := (blk_cell hgb 2).trans rfl
  have f2 := blk_frozen hgb 2
  have x0 := cell0 hx2
  have HA2 := Aside0.mk ha2
  have HX2 := Aside0.mk hx2
  have HBb := Aside0.mk hb2
  have HKb := Aside0.mk hk3
  clear ha2 hx2 hb2 hk3 hgb
  go_upto_region 12 with (fail)
  obtain ⟨ha3, hk4⟩ := AS.setc HA2.out 2 (.int .i64 x.f0) { s with up := u, mv := s.mv + d, pos := x.f0 } (fun _ => rfl)
  have hx3 : (wb.setCell ⟨g, 2, none⟩ (.int .i64 x.f0)).heap[gx]? = some (.cells #[.int .i64 x.f0, .int .i64 x.f1] 77 (0, 0)) := (Below.heap_setCell _ _ _ gx hgx).trans HX2.out
  have hb3 : Below w0.heap.size w0 (wb.setCell ⟨g, 2, none⟩ (.int .i64 x.f0)) := HBb.out.setCell (p := ⟨g, 2, none⟩) HS.out.base _
  have hk5 : Kept w (wb.setCell ⟨g, 2, none⟩ (.int .i64 x.f0)) P := kept_trans HKb.out hk4
  clear c2 f2 x0 hk4
  generalize wb.setCell ⟨g, 2, none⟩ (.int .i64 x.f0) = wc at *
  have x0 := cell0 hx3
  have hcan := Cancel_calls g P _ l x.f0 w0 wc hb3 ha3 hn
  have HX3 := Aside0.mk hx3
  have HKc := Aside0.mk hk5
  clear ha3 hb3 hx3 hk5
  have hml := cancel_len l x.f0
  have hmm : ∀ y ∈ (cancelA l x.f0).2, y.f1 < 1000000 ∧ 0 ≤ y.f1 := fun y hy => HAGE.out y (cancel_mem hy)
  obtain ⟨m, hm⟩ : ∃ m, (cancelA l x.f0).2 = m := ⟨_, rfl⟩
  have HM : Aside0 (dropA l x.f0 = m.map older) := ⟨by unfold dropA; rw [hm]⟩
  rw [hm] at hcan hml hmm
  have HMM := Aside0.mk hmm
  have hmn : m.length < 1000 := Nat.lt_of_le_of_lt hml hn
  clear hm hmm hml
  go_upto_region 13 with (go_at_call 27; with_reducible refine hcan.mono ?_; rintro e wd ⟨rfl, had, hbd, hkd⟩; have HAD := Aside0.mk had; have HBD := Aside0.mk hbd; have HKD := Aside0.mk (kept_trans HKc.out hkd); have HXD : Aside0 (wd.heap[gx]? = some (.cells #[.int .i64 x.f0, .int .i64 x.f1] 77 (0, 0))) := ⟨(kept_blk hkd gx (blk_lt HX3.out) (fun h => absurd (HP.out gx h) (Nat.not_lt.2 HGX.out))).trans HX3.out⟩; clear had hbd hkd hcan)
  have c5 : ∃ A5 cp5, wd.cell? ⟨g, 5, none⟩ = some (.slice A5 m.length cp5) := by
    obtain ⟨-, -, v5, hg5, hR5⟩ := HAD.out
    obtain ⟨A5, cp5, rfl, -, -⟩ := Kd.R_reads hR5
    exact ⟨A5, cp5, (blk_cell hg5 5).trans rfl⟩
  obtain ⟨A5, cp5, c5⟩ := c5
  clear x0
  go_wp2
  go_loopg [6, 76] m.length (fun kq _ v76 w' => ∃ i : Nat, i + kq = m.length ∧ v76 = .int .i64 (i : Int) ∧ Aside0 (AS w0.heap.size P w' g { s with up := u, mv := s.mv + d, pos := x.f0 } ((m.take i).map older ++ m.drop i)) ∧ Aside0 (Below w0.heap.size w0 w') ∧ Aside0 (Kept w w' P) ∧ Aside0 (w'.heap[gx]? = some (.cells #[.int .i64 x.f0, .int .i64 x.f1] 77 (0, 0))))
  case atStart => exact ⟨0, by omega, rfl, ⟨by simpa using HAD.out⟩, HBD, HKD, HXD⟩
  case round =>
    obtain ⟨i, hi, rfl, HAi, HBi, HKi, HXi⟩ := hrel
    clear HAD HBD HKD HXD c5
    cases gk with
    | zero =>
      obtain rfl : i = m.length := by omega
      have c0 : decide ((m.length : Int) < (m.length : Int)) = false := by simp
      have x0 := cell0 HXi.out
      go_wp2
      go_ret2
      refine ⟨rfl, ?_, HBi.out, HKi.out⟩
      have := HAi.out
      rw [List.take_length, List.drop_length, List.append_nil, ← HM.out, ← HD.out] at this
      exact this
    | succ k1 =>
      have hlt : i < m.length := by omega
      have c0 : decide ((i : Int) < (m.length : Int)) = true := by simp; omega
      have el : ((m.take i).map older ++ m.drop i).length = m.length := by simp; omega
      obtain ⟨gr, cap, hg6, hR6, hne6, hP6, hB6, hl6, hc6, -⟩ := as_open HAi.out (by rw [el]; omega)
      obtain ⟨q0, q1⟩ := (as_cells hR6 i (by rw [el]; exact hlt)).1
      have qf := (as_cells hR6 i (by rw [el]; exact hlt)).2 1
      have egi : ((m.take i).map older ++ m.drop i)[i]'(by rw [el]; exact hlt) = m[i] := by
        exact older_get m i hlt _
      rw [egi] at q0 q1
      rw [el] at hg6 hR6
      have c5 : wr.cell? ⟨g, 5, none⟩ = some (.slice (some ⟨gr, 0, none⟩) m.length cap) := (blk_cell hg6 5).trans rfl
      have p1 : (0 ≤ (i : Int)) = True := eq_true (by omega)
      have p2 : ((i : Int) < (m.length : Int)) = True := eq_true (by omega)
      have hag := HMM.out m[i] (List.getElem_mem hlt)
      have ewi : Aside0 (wrap64 ((i : Int) + 1) = ((i + 1 : Nat) : Int)) := ⟨by unfold wrap64; omega⟩
      have ewa : wrap64 (m[i].f1 + 1) = m[i].f1 + 1 := by unfold wrap64; omega
      have eset : ((m.take i).map older ++ m.drop i).set i ⟨m[i].f0, m[i].f1 + 1⟩ = (m.take (i + 1)).map older ++ m.drop (i + 1) := older_set m i hlt
      obtain ⟨r1, r2⟩ := as_put (l := (m.take i).map older ++ m.drop i) hR6 i (by rw [el]; exact hlt) (m[i].f1 + 1)
      rw [egi, eset] at r1
      have hput := AS.put (l := (m.take i).map older ++ m.drop i) (row2 := (m.take (i + 1)).map older ++ m.drop (i + 1)) (s := { s with up := u, mv := s.mv + d, pos := x.f0 }) HS.out.base HS.out.mine hP6 hne6 (by simp; omega) (by rw [el]; exact hg6) (by rw [el]; exact r1) r2
      have hBp := below_grown HBi.out r2 hB6 HBi.out.size
      have hXp : (wr.setCell ⟨gr, i * 2 + 1, none⟩ (.int .i64 (m[i].f1 + 1))).heap[gx]? = some (.cells #[.int .i64 x.f0, .int .i64 x.f1] 77 (0, 0)) := (Below.heap_setCell _ _ _ gx (fun e => absurd (HP.out gr hP6) (by rw [← show gx = gr from e]; exact Nat.not_lt.2 HGX.out))).trans HXi.out
      have HPUT := Aside0.mk hput
      have HBP := Aside0.mk hBp
      have HXP := Aside0.mk hXp
      clear r1 r2 hput hBp hXp eset egi hg6 hR6 hag q0
      generalize m[i].f1 = ag0 at *
      go_wp2
      go_roundg k1
      case rel => exact ⟨i + 1, by omega, by first | rfl | rw [ewi.out], ⟨HPUT.out.1⟩, HBP, ⟨kept_trans HKi.out HPUT.out.2⟩, HXP⟩
      all_goals omega

end Go.Proofs.Ytfbjeiloefocgaa.CC
/-! Contracts of the package arm: Next. -/
namespace Go.Proofs.Ytfbjeiloefocgaa.CC
open Go.RowKit Go.Proofs.Ytfbjeiloefocgaa.Fl Go.Proofs.Ytfbjeiloefocgaa.PL Go.Proofs.Ytfbjeiloefocgaa.PG Go.Proofs.YtfbjeiloefocgaaW.PrintWords Go.Proofs.YtfbjeiloefocgaaW.PrintLast Go.Proofs.YtfbjeiloefocgaaW.PrintMore
attribute [local go_sem] Oper.semAt_some

theorem Next_nil (w : World) : Calls Try.prog 20 #[.pointer none] w fun e w' => e = .returned (.tuple #[.int .i64 0, .bool false]) ∧ w' = w := by
  go_enter Try.func20, Try.ntmps20
  go_wp2
  go_ret2
  exact ⟨rfl, rfl⟩
theorem Next_none {B : Nat} {P : Nat → Prop} {w : World} {g : Nat} {s : Sc} (h : AS B P w g s []) : Calls Try.prog 20 #[.pointer (some ⟨g, 0, none⟩)] w fun e w' => e = .returned (.tuple #[.int .i64 0, .bool false]) ∧ w' = w := by
  obtain ⟨-, -, v, hg, hR⟩ := h
  obtain ⟨A, c, rfl, -, -⟩ := Kd.R_reads hR
  have c5 : w.cell? ⟨g, 5, none⟩ = some (.slice A 0 c) := (blk_cell hg 5).trans rfl
  clear hg hR
  go_enter Try.func20, Try.ntmps20
  go_wp2
  go_ret2
  exact ⟨rfl, rfl⟩
theorem filter_pos {l : List S77} {p : S77 → Bool} {x : S77} (h : x ∈ l) (hp : p x = true) : 0 < (l.filter p).length := List.length_pos_of_mem (List.mem_filter.2 ⟨h, hp⟩)
theorem up_or_dn (s : Sc) (x : S77) : upB s x = true ∨ dnB s x = true := by
  unfold upB dnB
  simp only [decide_eq_true_eq]
  omega
theorem updn_mem {l : List S77} {p q : S77 → Bool} {b : S77 → S77 → Bool} (hpq : ∀ x, p x = true ∨ q x = true) (h0 : 0 < l.length) (h : ¬ 0 < (l.filter p).length) : bst b (l.filter q) ∈ l := by
  obtain ⟨x, hx⟩ := List.exists_mem_of_length_pos h0
  rcases hpq x with hp | hq
  · exact absurd (filter_pos hx hp) h
  · exact (List.mem_filter.1 (bst_mem b _ (filter_pos hx hq))).1
theorem scan_mem {s : Sc} {l : List S77} (h0 : 0 < l.length) : (scanA s l).1 ∈ l := by
  unfold scanA
  split
  · split
    · exact (List.mem_filter.1 (bst_mem _ _ (by assumption))).1
    · exact updn_mem (up_or_dn s) h0 (by assumption)
  · split
    · exact (List.mem_filter.1 (bst_mem _ _ (by assumption))).1
    · exact updn_mem (fun x => (up_or_dn s x).symm) h0 (by assumption)
theorem cyc_mem {s : Sc} {l : List S77} (h0 : 0 < l.length) : cycA s l ∈ l := by
  unfold cycA
  split
  · exact (List.mem_filter.1 (bst_mem _ _ (by assumption))).1
  · exact bst_mem _ _ h0
theorem pick_mem {s : Sc} {l : List S77} (h0 : 0 < l.length) : (pickA s l).1 ∈ l := by
  unfold pickA
  rcases oldix_range l with hm | ⟨h1, h2⟩
  · rw [hm, if_neg (by decide)]
    split
    · exact bst_mem _ _ h0
    · split
      · exact scan_mem h0
      · split
        · exact cyc_mem h0
        · rw [getD77 _ _ h0]; exact List.getElem_mem h0
  · rw [if_pos h1]
    show l.getD _ _ ∈ l
    rw [getD77 _ _ (by omega)]
    exact List.getElem_mem _
theorem Next_calls (g : Nat) (P : Nat → Prop) (s : Sc) (l : List S77) (w0 w : World) (hB : Below w0.heap.size w0 w) (h : AS w0.heap.size P w g s l) (hn : l.length < 1000) (h0 : 0 < l.length) (hP : ∀ k, P k → k < w.heap.size) (hpos : Bl s.pos) (hper : Tr s.per) (hall : ∀ x ∈ l, Bl x.f0) (hage : ∀ x ∈ l, x.f1 < 1000000 ∧ 0 ≤ x.f1) (hmv : 0 ≤ s.mv ∧ s.mv < 1000000000) :
    Calls Try.prog 20 #[.pointer (some ⟨g, 0, none⟩)] w fun e w' => e = .returned (.tuple #[.int .i64 (pickA s l).1.f0, .bool true]) ∧ AS w0.heap.size P w' g (goA s (pickA s l)) (dropA l (pickA s l).1.f0) ∧ Below w0.heap.size w0 w' ∧ Kept w w' P := by
  have hxm := pick_mem (s := s) h0
  have quiet_ : ∀ (W w' : World), Below w.heap.size w W → Below W.heap.size W w' → Aside0 (AS w0.heap.size P w' g { s with up := s.up } l ∧ Below w0.heap.size w0 w' ∧ Kept W w' P) := fun W w' hb hb2 => ⟨(h.below hb).below hb2, below_then (below_then hB hB.size hb) (Nat.le_trans hB.size hb.size) hb2, kept_below _ hb2⟩
  rcases oldix_range l with hm | ⟨h1, h2⟩
  · by_cases p2 : s.p = 2
    · have e : pickA s l = (bst (nearB s) l, s.up) := by unfold pickA; rw [hm, if_neg (by decide), if_pos p2]
      rw [e] at hxm ⊢
      exact Next_65 g P s l w0 w hB h hn h0 hP hpos hper hall hage hmv _ _ hxm hm (by rw [p2]; rfl) (fun W hb => (near_calls (h.below hb) hn hpos hper hall).mono (fun e w' ⟨he, hb2⟩ => ⟨he, quiet_ W w' hb hb2⟩))
    · by_cases p3 : s.p = 3
      · have e : pickA s l = scanA s l := by unfold pickA; rw [hm, if_neg (by decide), if_neg p2, if_pos p3]
        rw [e] at hxm ⊢
        refine Next_66 g P s l w0 w hB h hn h0 hP hpos hper hall hage hmv (scanA s l).1 (scanA s l).2 hxm hm (by rw [p3]; rfl) (fun W hb => (scan_calls g P s l w0 W (below_then hB hB.size hb) (h.below hb) hn (fun k hk => Nat.lt_of_lt_of_le (hP k hk) hb.size)).mono (fun e w' ⟨he, h3, h4, h5⟩ => ⟨he, h3, h4, h5⟩))
      · by_cases p4 : s.p = 4
        · have e : pickA s l = (cycA s l, s.up) := by unfold pickA; rw [hm, if_neg (by decide), if_neg p2, if_neg p3, if_pos p4]
          rw [e] at hxm ⊢
          exact Next_67 g P s l w0 w hB h hn h0 hP hpos hper hall hage hmv _ _ hxm hm (by rw [p4]; rfl) (fun W hb => (cyclic_calls (h.below hb) hn).mono (fun e w' ⟨he, hb2⟩ => ⟨he, quiet_ W w' hb hb2⟩))
        · have e : pickA s l = (l[0], s.up) := by unfold pickA; rw [hm, if_neg (by decide), if_neg p2, if_neg p3, if_neg p4, getD77 _ _ h0]
          rw [e] at hxm ⊢
          exact Next_68 g P s l w0 w hB h hn h0 hP hpos hper hall hage hmv _ _ hxm hm (by unfold chF; rw [if_neg p2, if_neg p3, if_neg p4]) (fun W hb => (fifo_calls (h.below hb) h0).mono (fun e w' ⟨he, hb2⟩ => ⟨he, quiet_ W w' hb hb2⟩))
  · obtain ⟨n, hn2⟩ := Int.eq_ofNat_of_zero_le h1
    have hnl : n < l.length := by omega
    have e : pickA s l = (l[n], if l[n].f0 = s.pos then s.up else decide (s.pos < l[n].f0)) := by unfold pickA; rw [if_pos h1, hn2, Int.toNat_natCast, getD77 _ _ hnl]
    rw [e]
    by_cases hs : l[n].f0 = s.pos
    · exact Next_same g P s l w0 w hB h hn h0 hP hpos hper hall hage hmv l[n] _ n hnl hn2 rfl hs (by rw [if_pos hs])
    · exact Next_diff g P s l w0 w hB h hn h0 hP hpos hper hall hage hmv l[n] _ n hnl hn2 rfl hs (by rw [if_neg hs])
end Go.Proofs.Ytfbjeiloefocgaa.CC
