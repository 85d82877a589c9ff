import Derived.Test.YtlmnagbfmkaglaaR2
/-! Contracts: Drop of the document's cache. -/
namespace Go.Proofs.Ytlmnagbfmkaglaa.CC
open Go.RowKit Go.Proofs.Ytlmnagbfmkaglaa.PG Go.Proofs.YtlmnagbfmkaglaaW.PrintWords Go.Proofs.YtlmnagbfmkaglaaW.PrintLast Go.Proofs.YtlmnagbfmkaglaaW.PrintMore
attribute [local go_sem] Oper.semAt_some
def goesB (x : S71) : Bool := x.f1 == 0 && !x.f2
theorem goes_calls (x : S71) (w : World) : Calls Try.prog 44 #[.agg #[.int .i64 x.f0, .int .i64 x.f1, .bool x.f2, .bool x.f3]] w fun e w' => e = .returned (.bool (goesB x)) ∧ Below w.heap.size w w' := by
  refine selvedgeref08_held_goes.calls x.f0 x.f1 x.f2 x.f3 (goesB x) w ?_
  unfold selvedgeref08_held_goes.f goesB
  by_cases h : x.f1 = 0
  · simp [h]
  · simp [h]
def dropR (l : List S71) (b : Int) : Int × List S71 := if ixR l b < 0 then (5, l) else if goesB (l.getD (ixR l b).toNat z71) = true then (0, l.take (ixR l b).toNat ++ l.drop ((ixR l b).toNat + 1)) else (12, l)
/-- A new row is written into the state. -/
theorem rs_new {g : Nat} {P : Nat → Prop} {most : Int} {l' : List S71} {v v6 : Value} {w0 w w6 : World} (hB : Below w0.heap.size w0 w) (h1 : w0.heap.size ≤ g) (h2 : P g) (h3 : w.heap[g]? = some (.cells #[.int .i64 most, v] 67 (0, 0))) (hb : Below w.heap.size w w6) (ho : Kd.R k71 71 w6 w.heap.size (fun _ => True) v6 l') :
    RS w0.heap.size (fun k => P k ∨ w.heap.size ≤ k) (w6.setCell ⟨g, 1, none⟩ v6) g most l' ∧ Below w0.heap.size w0 (w6.setCell ⟨g, 1, none⟩ v6) ∧ Kept w (w6.setCell ⟨g, 1, none⟩ v6) P := by
  have hg6 := blk_below h3 hb
  have hg7 : (w6.setCell ⟨g, 1, none⟩ v6).heap[g]? = some (.cells #[.int .i64 most, v6] 67 (0, 0)) := blk_put hg6 1 _ rfl
  have o1 := Kd.R_set ho hg6 (by simp [show k71.E = [] from rfl]) 1 v6
  refine ⟨⟨h1, .inl h2, v6, hg7, Kd.R_lower (Kd.R_mono (Kd.R_bound o1) (fun k hk => .inr hk.2.1)) hB.size⟩, (below_then hB hB.size hb).setCell (p := ⟨g, 1, none⟩) h1 _, ?_, fun k hk hS => ?_⟩
  · rw [World.size_setCell]; exact hb.size
  · have hkg : k ≠ g := fun e => hS (e ▸ h2)
    rw [Below.heap_setCell _ _ _ k hkg]
    exact hb.block k hk
def DropR_T8 : Bool × List (List Nat × List Nat) := (true, [([], []), ([], []), ([], []), ([2], [2]), ([3], [3]), ([4], [4]), ([], []), ([5, 6], [5, 6]), ([1, 7], [1, 7]), ([], []), ([9], [9]), ([10], [10]), ([11], [11]), ([], []), ([13], [13]), ([12, 14], [12, 14]), ([8, 15, 8], [8, 15]), ([0, 0, 1, 2, 3, 4, 5, 6, 7, 8, 9, 10, 11, 12, 13, 14, 15, 16], [0]), ([17, 0, 1, 2, 3, 4, 5, 6, 7, 8, 9, 10, 11, 12, 13, 14, 15, 16], [17]), ([18, 16, 16, 0, 1, 2, 3, 4, 5, 6, 7, 8, 9, 10, 11, 12, 13, 14, 15, 16], [16, 18])])
def DropR_B8 : List Nat := [0, 0, 0, 4, 12, 28, 0, 124, 254, 0, 512, 1536, 3584, 0, 8192, 32256, 65534, 131071, 262143, 524287]
theorem DropR_tab8 : rtab .any (opsOf Try.f39 8) = DropR_T8 := by kernel_rfl
theorem DropR_bits8 : waitsOk DropR_T8.2 DropR_B8 = true := by kernel_rfl
set_option maxHeartbeats 4000000 in
set_option maxRecDepth 100000 in
theorem DropR_calls (g : Nat) (P : Nat → Prop) (most : Int) (l : List S71) (b : Int) (w0 w : World) (hB : Below w0.heap.size w0 w) (h : RS w0.heap.size P w g most l) (hn : l.length < 1000) :
    Calls Try.prog 39 #[.pointer (some ⟨g, 0, none⟩), .int .i64 b] w fun e w' => e = .returned (.int .i64 (dropR l b).1) ∧ RS w0.heap.size (fun k => P k ∨ w.heap.size ≤ k) w' g most (dropR l b).2 ∧ Below w0.heap.size w0 w' ∧ Kept w w' P := by
  have HB := Aside0.mk hB
  have HS := Aside0.mk h
  have HN := Aside0.mk hn
  have hf := at_rs b h hn
  have same_ : ∀ w', Below w.heap.size w w' → RS w0.heap.size (fun k => P k ∨ w.heap.size ≤ k) w' g most l ∧ Below w0.heap.size w0 w' ∧ Kept w w' P := fun w' hb => ⟨(HS.out.below hb).mono (fun k hk => .inl hk), below_then HB.out HB.out.size hb, kept_below _ hb⟩
  have SAME := Aside0.mk same_
  clear same_
  unfold dropR
  rcases ixR_range l b with hm | ⟨h0, h1⟩
  · rw [hm, if_pos (by decide)]
    rw [hm] at hf
    clear h hB hn
    go_enter Try.func39, Try.ntmps39
    go_wp2_with (go_at_call 43; with_reducible refine hf.mono ?_; rintro e w' ⟨rfl, hb⟩)
    go_ret
    exact ⟨rfl, SAME.out _ hb⟩
  · obtain ⟨n, hnn⟩ := Int.eq_ofNat_of_zero_le h0
    rw [hnn] at hf h1 ⊢
    have hlt : n < l.length := by omega
    obtain ⟨gr, cap, hg, hR, hne, hP, hb0, hl, hcap, hC⟩ := rs_open h (by omega)
    rw [if_neg (by omega), Int.toNat_natCast, getD_at71 _ _ hlt]
    have hx0 := (rs_cells hR n hlt).1
    obtain ⟨x, hx⟩ : ∃ x, l[n] = x := ⟨_, rfl⟩
    rw [hx] at hx0 ⊢
    obtain ⟨x0, x1, x2, x3⟩ := hx0
    have c1 := (blk_cell hg 1).trans rfl
    have d0 : decide ((n : Int) < 0) = false := by simp
    obtain ⟨m, hm⟩ : ∃ m, n + 1 = m := ⟨_, rfl⟩
    have p1 : (0 ≤ (n : Int)) = True := eq_true (by omega)
    have p2 : ((n : Int) < (l.length : Int)) = True := eq_true (by omega)
    have p3 : ((n : Int) ≤ (cap : Int)) = True := eq_true (by omega)
    have p4 : ((l.length : Int) ≤ (cap : Int)) = True := eq_true (by omega)
    have p5 : (0 ≤ (m : Int)) = True := eq_true (by omega)
    have p6 : ((m : Int) ≤ (l.length : Int)) = True := eq_true (by omega)
    have ew : wrap64 ((n : Int) + 1) = (m : Int) := by unfold wrap64; omega
    have HR := Aside0.mk hR
    have HG := Aside0.mk hg
    have HC := Aside0.mk hC
    rw [hm]
    clear hR hg h hB hC hn
    cases hcan : goesB x with
    | false =>
      rw [if_neg (by decide)]
      go_enter Try.func39, Try.ntmps39
      go_wp2_with (first | (go_at_call 43; with_reducible refine hf.mono ?_; rintro e w5 ⟨rfl, hb⟩; replace x0 := pw_cell_below hb x0; replace x1 := pw_cell_below hb x1; replace x2 := pw_cell_below hb x2; replace x3 := pw_cell_below hb x3; have c2 := pw_cell_below hb c1) | (go_at_call 44; with_reducible refine (goes_calls x _).mono ?_; rw [hcan]; rintro e w6 ⟨rfl, hb6⟩))
      go_ret
      exact ⟨rfl, SAME.out _ (below_step hb hb6)⟩
    | true =>
      rw [if_pos rfl]
      go_enter Try.func39, Try.ntmps39
      go_upto_region 8 with (first | (go_at_call 43; with_reducible refine hf.mono ?_; rintro e w5 ⟨rfl, hb⟩; replace x0 := pw_cell_below hb x0; replace x1 := pw_cell_below hb x1; replace x2 := pw_cell_below hb x2; replace x3 := pw_cell_below hb x3; have c2 := pw_cell_below hb c1) | (go_at_call 44; with_reducible refine (goes_calls x _).mono ?_; rw [hcan]; rintro e w6 ⟨rfl, hb6⟩))
      have HB6 := Aside0.mk (below_step hb hb6)
      clear x0 x1 x2 x3 c1 c2 hb hb6
      refine start_ (n := 20) (S := fun w' => w'.cell? ⟨g, 1, none⟩ = some (.slice (some ⟨gr, 0, none⟩) l.length cap)) (ds := [19]) #[false, false, false, false, false, false, false, false, false, false, false, false, false, false, false, false, false, false, false, false] (by kernel_rfl) rfl rfl (pw_cell_below (below_drew HB6.out) ((blk_cell HG.out 1).trans rfl)) (fun hHeld => ?_); refine with_tabW DropR_tab8 DropR_bits8 (fun HT_ HW_ => ?_)
      refine pure_ (i := 0) (N := some 25) (v := ?_) (a' := ?_) #[true, false, false, false, false, false, false, false, false, false, false, false, false, false, false, false, false, false, false, false] rfl rfl (any_of HT_.out (by kernel_rfl)) (fun _ _ _ h => h) (Or.inl ⟨by rfl, ?_⟩) ?_ ?_
      rotate_left
      · intro w'
        go_simp
        with_reducible rfl
      rotate_left
      · simp only [Act.put, List.setIfInBounds_toArray, List.set_cons_zero, List.set_cons_succ, i64_w, i32_w]
        rfl
      refine pure_ (i := 2) (N := some 27) (v := ?_) (a' := ?_) #[true, false, true, false, false, false, false, false, false, false, false, false, false, false, false, false, false, false, false, false] rfl rfl (any_of HT_.out (by kernel_rfl)) (fun _ _ _ h => h) (Or.inl ⟨by rfl, ?_⟩) ?_ ?_
      rotate_left
      · intro w'
        go_simp
        with_reducible rfl
      rotate_left
      · simp only [Act.put, List.setIfInBounds_toArray, List.set_cons_zero, List.set_cons_succ, i64_w, i32_w]
        rfl
      refine pure_ (i := 3) (N := some 28) (v := ?_) (a' := ?_) #[true, false, true, true, false, false, false, false, false, false, false, false, false, false, false, false, false, false, false, false] rfl rfl (any_of HT_.out (by kernel_rfl)) (fun _ _ _ h => h) (Or.inl ⟨by rfl, ?_⟩) ?_ ?_
      rotate_left
      · intro w'
        go_simp
        with_reducible rfl
      rotate_left
      · simp only [Act.put, List.setIfInBounds_toArray, List.set_cons_zero, List.set_cons_succ, i64_w, i32_w]
        rfl
      refine pure_ (i := 4) (N := some 29) (v := ?_) (a' := ?_) #[true, false, true, true, true, false, false, false, false, false, false, false, false, false, false, false, false, false, false, false] rfl rfl (any_of HT_.out (by kernel_rfl)) (fun _ _ _ h => h) (Or.inl ⟨by rfl, ?_⟩) ?_ ?_
      rotate_left
      · intro w'
        go_simp
        with_reducible rfl
      rotate_left
      · simp only [Act.put, List.setIfInBounds_toArray, List.set_cons_zero, List.set_cons_succ, i64_w, i32_w]
        rfl
      refine take_ (i := 5) (N := some 30) (v := ?_) (a' := ?_) #[true, false, true, true, true, true, false, false, false, false, false, false, false, false, false, false, false, false, false, false] rfl rfl (take_ofW HT_.out HW_.out (by kernel_rfl)) (fun _ _ _ h => h) (Or.inl ⟨by rfl, ?_⟩) hHeld ?_ ?_
      rotate_left
      · rintro w' s0
        go_simp
        with_reducible rfl
      rotate_left
      · simp only [Act.put, List.setIfInBounds_toArray, List.set_cons_zero, List.set_cons_succ, i64_w, i32_w]
        rfl
      refine pure_ (i := 6) (N := some 31) (v := ?_) (a' := ?_) #[true, false, true, true, true, true, true, false, false, false, false, false, false, false, false, false, false, false, false, false] rfl rfl (any_of HT_.out (by kernel_rfl)) (fun _ _ _ h => h) (Or.inl ⟨by rfl, ?_⟩) ?_ ?_
      rotate_left
      · intro w'
        go_simp
        with_reducible rfl
      rotate_left
      · simp only [Act.put, List.setIfInBounds_toArray, List.set_cons_zero, List.set_cons_succ, i64_w, i32_w]
        rfl
      refine pure_ (i := 7) (N := some 32) (v := ?_) (a' := ?_) #[true, false, true, true, true, true, true, true, false, false, false, false, false, false, false, false, false, false, false, false] rfl rfl (any_of HT_.out (by kernel_rfl)) (fun _ _ _ h => h) (Or.inl ⟨by rfl, ?_⟩) ?_ ?_
      rotate_left
      · intro w'
        go_simp
        with_reducible rfl
      rotate_left
      · simp only [Act.put, List.setIfInBounds_toArray, List.set_cons_zero, List.set_cons_succ, i64_w, i32_w]
        rfl
      refine pure_ (i := 9) (N := some 34) (v := ?_) (a' := ?_) #[true, false, true, true, true, true, true, true, false, true, false, false, false, false, false, false, false, false, false, false] rfl rfl (any_of HT_.out (by kernel_rfl)) (fun _ _ _ h => h) (Or.inl ⟨by rfl, ?_⟩) ?_ ?_
      rotate_left
      · intro w'
        go_simp
        with_reducible rfl
      rotate_left
      · simp only [Act.put, List.setIfInBounds_toArray, List.set_cons_zero, List.set_cons_succ, i64_w, i32_w]
        rfl
      refine pure_ (i := 10) (N := some 35) (v := ?_) (a' := ?_) #[true, false, true, true, true, true, true, true, false, true, true, false, false, false, false, false, false, false, false, false] rfl rfl (any_of HT_.out (by kernel_rfl)) (fun _ _ _ h => h) (Or.inl ⟨by rfl, ?_⟩) ?_ ?_
      rotate_left
      · intro w'
        go_simp
        with_reducible rfl
      rotate_left
      · simp only [Act.put, List.setIfInBounds_toArray, List.set_cons_zero, List.set_cons_succ, i64_w, i32_w]
        rfl
      refine pure_ (i := 11) (N := some 36) (v := ?_) (a' := ?_) #[true, false, true, true, true, true, true, true, false, true, true, true, false, false, false, false, false, false, false, false] rfl rfl (any_of HT_.out (by kernel_rfl)) (fun _ _ _ h => h) (Or.inl ⟨by rfl, ?_⟩) ?_ ?_
      rotate_left
      · intro w'
        go_simp
        with_reducible rfl
      rotate_left
      · simp only [Act.put, List.setIfInBounds_toArray, List.set_cons_zero, List.set_cons_succ, i64_w, i32_w]
        rfl
      refine take_ (i := 12) (N := some 37) (v := ?_) (a' := ?_) #[true, false, true, true, true, true, true, true, false, true, true, true, true, false, false, false, false, false, false, false] rfl rfl (take_ofW HT_.out HW_.out (by kernel_rfl)) (fun _ _ _ h => h) (Or.inl ⟨by rfl, ?_⟩) hHeld ?_ ?_
      rotate_left
      · rintro w' s0
        go_simp
        with_reducible rfl
      rotate_left
      · simp only [Act.put, List.setIfInBounds_toArray, List.set_cons_zero, List.set_cons_succ, i64_w, i32_w]
        rfl
      refine pure_ (i := 13) (N := some 38) (v := ?_) (a' := ?_) #[true, false, true, true, true, true, true, true, false, true, true, true, true, true, false, false, false, false, false, false] rfl rfl (any_of HT_.out (by kernel_rfl)) (fun _ _ _ h => h) (Or.inl ⟨by rfl, ?_⟩) ?_ ?_
      rotate_left
      · intro w'
        go_simp
        with_reducible rfl
      rotate_left
      · simp only [Act.put, List.setIfInBounds_toArray, List.set_cons_zero, List.set_cons_succ, i64_w, i32_w]
        rfl
      refine pure_ (i := 14) (N := some 39) (v := ?_) (a' := ?_) #[true, false, true, true, true, true, true, true, false, true, true, true, true, true, true, false, false, false, false, false] rfl rfl (any_of HT_.out (by kernel_rfl)) (fun _ _ _ h => h) (Or.inl ⟨by rfl, ?_⟩) ?_ ?_
      rotate_left
      · intro w'
        go_simp
        with_reducible rfl
      rotate_left
      · simp only [Act.put, List.setIfInBounds_toArray, List.set_cons_zero, List.set_cons_succ, i64_w, i32_w]
        rfl
      refine pure_ (i := 15) (N := some 40) (v := ?_) (a' := ?_) #[true, false, true, true, true, true, true, true, false, true, true, true, true, true, true, true, false, false, false, false] rfl rfl (any_of HT_.out (by kernel_rfl)) (fun _ _ _ h => h) (Or.inl ⟨by rfl, ?_⟩) ?_ ?_
      rotate_left
      · intro w'
        go_simp
        with_reducible rfl
      rotate_left
      · simp only [Act.put, List.setIfInBounds_toArray, List.set_cons_zero, List.set_cons_succ, i64_w, i32_w]
        rfl
      refine one_ (i := 1) (N := some 26) #[true, true, true, true, true, true, true, true, false, true, true, true, true, true, true, true, false, false, false, false] rfl rfl (one_of HT_.out (by kernel_rfl)) (by decide) (fun K hK => ?_)
      generalize hA1 : (if cap = m then (some ⟨gr, 0, none⟩ : Option Addr) else some ⟨gr, m * 4, none⟩) = A9
      have hdr : Kd.C k71 w A9 (l.length - m) (l.drop m) := by
        have h0 := Kd.C_drop HC.out (Nat.le_trans (by omega) (Nat.le_refl l.length) : m ≤ l.length) hcap
        have e0 : (if cap = m then (some (⟨gr, 0, none⟩ : Addr)) else Option.map (fun (x : Addr) => x.add (m * k71.sz)) (some (⟨gr, 0, none⟩ : Addr))) = A9 := by rw [← hA1]; split <;> simp [add_plain, show k71.sz = 4 from rfl]
        rw [e0, List.length_drop] at h0
        exact h0
      have htk : Kd.C k71 w (some ⟨gr, 0, none⟩) n (l.take n) := by
        have h0 := Kd.C_take HC.out (show n ≤ l.length by omega)
        rw [List.length_take, Nat.min_eq_left (by omega)] at h0
        exact h0
      refine Kd.R_lit_step k71 (w0 := w) w.heap.size 71 (by rfl) (N := 26) rfl (xs := ([] : List S71)) (inner := []) (ok := fun _ => True) (okp := fun _ => False) (by first | (go_simp; done) | (go_simp; rfl)) (Reps.none _ _) (fun _ h => h.elim) trivial (below_drew HB6.out) (Nat.le_trans HB6.out.size (Nat.le_refl _)) (by decide) ?_
      intro v1 w1 ho1 hb1 hg1 hn1
      obtain ⟨A1, c1, e1⟩ := Kd.R_slice ho1
      subst e1
      clear hg1 hn1 hHeld
      refine hK.out _ _ (pw_cell_below hb1 ((blk_cell HG.out 1).trans rfl)) (fun hHeld => ?_)
      clear hK K
      refine norm_ (a' := ?_) ?_ ?_
      rotate_left
      · show Act.put _ (some 26) _ = _
        simp only [Act.put, List.setIfInBounds_toArray, List.set_cons_zero, List.set_cons_succ, i64_w, i32_w]
        rfl
      refine one_ (i := 8) (N := some 33) #[true, true, true, true, true, true, true, true, true, true, true, true, true, true, true, true, false, false, false, false] rfl rfl (one_of HT_.out (by kernel_rfl)) (by decide) (fun K hK => ?_)
      refine Kd.R_append_rows_step k71 (w0 := w) w.heap.size (by rfl) (.tmp 26) (.tmp 32) 65 71 (.agg #[.int .i64 0, .int .i64 0, .bool false, .bool false]) 24 rfl Try.underlying65 info71 rfl (by decide) (by omega) _ ([] : List S71) (l.take n) (some ⟨gr, 0, none⟩) n cap (fun _ => True) (fun _ => False) rfl rfl ho1 (Kd.C_below htk hb1) (fun x cs h => by obtain rfl := k71_open h; exact k71_mkM _ _ _ x) (fun _ h => h.elim) (fun _ _ => trivial) hb1 hb1.size (by have := HN.out; simp; omega) ?_
      intro v2 w2 ho2 hb2 hg2 hat2
      rw [List.nil_append] at ho2
      have ho2' := ho2
      obtain ⟨A2, c2, e2⟩ := Kd.R_slice ho2'
      rw [List.length_take, Nat.min_eq_left (by omega : n ≤ l.length)] at e2
      subst e2
      clear hg2 hat2 hHeld ho1 hb1 ho2'
      refine hK.out _ _ (pw_cell_below hb2 ((blk_cell HG.out 1).trans rfl)) (fun hHeld => ?_)
      clear hK K
      refine norm_ (a' := ?_) ?_ ?_
      rotate_left
      · show Act.put _ (some 33) _ = _
        simp only [Act.put, List.setIfInBounds_toArray, List.set_cons_zero, List.set_cons_succ, i64_w, i32_w]
        rfl
      refine one_ (i := 16) (N := some 41) #[true, true, true, true, true, true, true, true, true, true, true, true, true, true, true, true, true, false, false, false] rfl rfl (one_of HT_.out (by kernel_rfl)) (by decide) (fun K hK => ?_)
      refine Kd.R_append_rows_step k71 (w0 := w) w.heap.size (by rfl) (.tmp 33) (.tmp 40) 65 71 (.agg #[.int .i64 0, .int .i64 0, .bool false, .bool false]) 24 rfl Try.underlying65 info71 rfl (by decide) (by omega) _ (l.take n) (l.drop m) A9 (l.length - m) (cap - m) (fun _ => True) (fun _ => False) rfl rfl ho2 (Kd.C_below hdr hb2) (fun x cs h => by obtain rfl := k71_open h; exact k71_mkM _ _ _ x) (fun _ h => h.elim) (fun _ _ => trivial) hb2 hb2.size (by have := HN.out; simp; omega) ?_
      intro v3 w3 ho3 hb3 hg3 hat3
      obtain ⟨A3, c3, e3⟩ := Kd.R_slice ho3
      rw [show (l.take n ++ l.drop m).length = min n l.length + (l.length - m) from by simp] at e3
      subst e3
      have HO := Aside0.mk ho3
      have HB3 := Aside0.mk hb3
      clear hg3 hat3 hHeld ho2 hb2 ho3
      refine hK.out _ _ (pw_cell_below hb3 ((blk_cell HG.out 1).trans rfl)) (fun hHeld => ?_)
      clear hK K
      refine norm_ (a' := ?_) ?_ ?_
      rotate_left
      · show Act.put _ (some 41) _ = _
        simp only [Act.put, List.setIfInBounds_toArray, List.set_cons_zero, List.set_cons_succ, i64_w, i32_w]
        rfl
      refine pure_ (i := 17) (N := some 42) (v := ?_) (a' := ?_) #[true, true, true, true, true, true, true, true, true, true, true, true, true, true, true, true, true, true, false, false] rfl rfl (any_of HT_.out (by kernel_rfl)) (fun _ _ _ h => h) (Or.inl ⟨by rfl, ?_⟩) ?_ ?_
      rotate_left
      · intro w'
        go_simp
        with_reducible rfl
      rotate_left
      · simp only [Act.put, List.setIfInBounds_toArray, List.set_cons_zero, List.set_cons_succ, i64_w, i32_w]
        rfl
      refine pure_ (i := 18) (N := some 43) (v := ?_) (a' := ?_) #[true, true, true, true, true, true, true, true, true, true, true, true, true, true, true, true, true, true, true, false] rfl rfl (any_of HT_.out (by kernel_rfl)) (fun _ _ _ h => h) (Or.inl ⟨by rfl, ?_⟩) ?_ ?_
      rotate_left
      · intro w'
        go_simp
        with_reducible rfl
      rotate_left
      · simp only [Act.put, List.setIfInBounds_toArray, List.set_cons_zero, List.set_cons_succ, i64_w, i32_w]
        rfl
      refine last_ (i := 19) (N := none) #[true, true, true, true, true, true, true, true, true, true, true, true, true, true, true, true, true, true, true, true] rfl rfl (one_of HT_.out (by kernel_rfl)) (by decide) (fun K hK => ?_)
      have hs8 := hHeld
      have hf8 := blk_frozen (blk_below HG.out HB3.out) 1
      refine skip_ (w1 := ?_) (by rfl) rfl ?_ ?_
      rotate_left
      · go_simp
        rfl
      refine hK.out _ _ ?_
      clear hK K
      refine done_ (done_of HT_.out (by kernel_rfl)) ?_
      go_wp2
      go_ret
      exact ⟨rfl, rs_new HB.out HS.out.base HS.out.mine HG.out HB3.out HO.out⟩
end Go.Proofs.Ytlmnagbfmkaglaa.CC
