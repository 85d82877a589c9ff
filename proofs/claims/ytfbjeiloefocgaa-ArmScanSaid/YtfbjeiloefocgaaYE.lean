import Derived.Test.YtfbjeiloefocgaaYF
/-! Contracts of the document's arm: choose. -/
namespace Go.Proofs.Ytfbjeiloefocgaa.CC
open Go.RowKit Go.Proofs.Ytfbjeiloefocgaa.Fl Go.Proofs.Ytfbjeiloefocgaa.PL Go.Proofs.Ytfbjeiloefocgaa.PG Go.Proofs.YtfbjeiloefocgaaW.PrintWords Go.Proofs.YtfbjeiloefocgaaW.PrintLast Go.Proofs.YtfbjeiloefocgaaW.PrintMore
attribute [local go_sem] Oper.semAt_some

def nearD (s : Sc) (x y : S86) : Bool := decide (wayI s.pos x.f0 s.per < wayI s.pos y.f0 s.per) || (wayI s.pos x.f0 s.per == wayI s.pos y.f0 s.per && decide (x.f0 < y.f0))
/-- Where the first one is that is better than all others, of the first ones. -/
def nixD (b : S86 → S86 → Bool) (l : List S86) : Nat → Nat
  | 0 => 0
  | i + 1 => if b (l.getD (i + 1) z86) (l.getD (nixD b l i) z86) = true then i + 1 else nixD b l i
theorem nixD_le (b : S86 → S86 → Bool) (l : List S86) : ∀ i, nixD b l i ≤ i
  | 0 => Nat.le_refl _
  | i + 1 => by
    unfold nixD
    split
    · exact Nat.le_refl _
    · exact Nat.le_trans (nixD_le b l i) (Nat.le_succ i)
theorem getD_mem86 {l : List S86} {i : Nat} (h : i < l.length) : l.getD i z86 ∈ l := by rw [getD86 _ _ h]; exact List.getElem_mem h
def chD_T7 : Bool × List (List Nat × List Nat) := (true, [([], []), ([], []), ([1], [1]), ([2], [2]), ([3], [3]), ([], []), ([4, 5], [4, 5]), ([6], [6]), ([7], [7]), ([0, 8], [0, 8]), ([], []), ([], []), ([11], [11]), ([12], [12]), ([13], [13]), ([], []), ([14, 15], [14, 15]), ([16], [16]), ([17], [17]), ([10, 18, 9], [10, 18]), ([9, 19, 0, 1, 2, 3, 4, 5, 6, 7, 8, 9], [9]), ([19, 20, 0, 1, 2, 3, 4, 5, 6, 7, 8, 9, 10, 11, 12, 13, 14, 15, 16, 17, 18, 19, 20], [19])])
def chD_B7 : List Nat := [0, 0, 2, 6, 14, 0, 62, 126, 254, 511, 0, 0, 2048, 6144, 14336, 0, 63488, 129024, 260096, 524287, 1048575, 2097151]
theorem chD_tab7 : rtab .any (opsOf Try.f56 7) = chD_T7 := by kernel_rfl
theorem chD_bits7 : waitsOk chD_T7.2 chD_B7 = true := by kernel_rfl
set_option maxRecDepth 100000 in
set_option maxHeartbeats 4000000 in
theorem chooseD_near {B : Nat} {P : Nat → Prop} {w : World} {g : Nat} {s : Sc} {l : List S86} (h : DS B P w g s l) (hn : l.length < 1000) (h0 : 0 < l.length) (hp : s.p = 2) (hpos : Bl s.pos) (hper : Tr s.per) (hall : ∀ x ∈ l, Bl x.f0) :
    Calls Try.prog 56 #[.pointer (some ⟨g, 0, none⟩)] w fun e w' => e = .returned (.int .i64 (nixD (nearD s) l (l.length - 1))) ∧ Below w.heap.size w w' := by
  have HS := Aside0.mk h
  obtain ⟨gr, c, hg, hR, -⟩ := ds_open h h0
  have HC := Aside0.mk (Kd.R_reads' hR).2.2
  have HN := Aside0.mk hn
  have HALL := Aside0.mk hall
  have C5 : Aside0 (w.cell? ⟨g, 5, none⟩ = some (.slice (some ⟨gr, 0, none⟩) l.length c)) := ⟨(blk_cell hg 5).trans rfl⟩
  have c0 : w.cell? ⟨g, 0, none⟩ = some (.int .u8 2) := (blk_cell hg 0).trans (by rw [← hp]; rfl)
  obtain ⟨ad, had⟩ : ∃ ad : Addr, ad = ⟨gr, 0, none⟩ := ⟨_, rfl⟩
  rw [← had] at C5 HC
  clear hg hR h hall had hn
  go_enter Try.func56, Try.ntmps56
  go_wp2
  go_loopg [3, 4, 5, 6] (l.length - 1) (fun kq v3 v4 _ _ w' => ∃ i j : Nat, i + kq = l.length - 1 ∧ Aside0 (j = i + 1) ∧ v3 = .int .i64 ((nixD (nearD s) l i : Nat) : Int) ∧ v4 = .int .i64 (j : Int) ∧ Aside0 (Below w.heap.size w w'))
  case atStart => exact ⟨0, 1, by omega, ⟨rfl⟩, rfl, rfl, ⟨Below.refl _ _⟩⟩
  case round =>
    obtain ⟨i, j, hi, hj, rfl, rfl, hB⟩ := hrel
    have c5 := pw_cell_below hB.out C5.out
    cases gk with
    | zero =>
      obtain rfl : i = l.length - 1 := by omega
      have d0 : decide ((j : Int) < (l.length : Int)) = false := by have := hj.out; simp; omega
      have d0b : decide (j < l.length) = false := by have := hj.out; simp; omega
      go_wp2
      go_ret
      exact ⟨rfl, hB.out⟩
    | succ k1 =>
      have hlt : j < l.length := by have := hj.out; omega
      have d0 : decide ((j : Int) < (l.length : Int)) = true := by simp; omega
      have p1 : (0 ≤ (j : Int)) = True := eq_true (by omega)
      have p2 : ((j : Int) < (l.length : Int)) = True := eq_true (by omega)
      obtain ⟨ad1, e, hx0⟩ := cell86 (Kd.C_below HC.out hB.out) j hlt
      cases e
      have hst : nixD (nearD s) l (i + 1) = if nearD s (l.getD j z86) (l.getD (nixD (nearD s) l i) z86) = true then j else nixD (nearD s) l i := by rw [hj.out]; rfl
      have hnl := nixD_le (nearD s) l i
      generalize hr : nixD (nearD s) l i = n at *
      have hnlt : n < l.length := by have := hj.out; omega
      obtain ⟨ad2, e, hy0⟩ := cell86 (Kd.C_below HC.out hB.out) n hnlt
      cases e
      have q1 : (0 ≤ (n : Int)) = True := eq_true (by omega)
      have q2 : ((n : Int) < (l.length : Int)) = True := eq_true (by omega)
      have hxb := HALL.out _ (getD_mem86 hlt)
      have hyb := HALL.out _ (getD_mem86 hnlt)
      have ewi : Aside0 (wrap64 ((j : Int) + 1) = ((j + 1 : Nat) : Int)) := ⟨by have := HN.out; unfold wrap64; omega⟩
      generalize l.getD j z86 = x at *
      generalize l.getD n z86 = y at *
      have hw1 : ∀ W, Below w.heap.size w W → Calls Try.prog 57 #[.pointer (some ⟨g, 0, none⟩), .int .i64 x.f0] W fun e w' => e = .returned (.int .i64 (wayI s.pos x.f0 s.per)) ∧ Below W.heap.size W w' := fun W hb => wayD_calls x.f0 (HS.out.below hb) hpos hper hxb
      have hw2 : ∀ W, Below w.heap.size w W → Calls Try.prog 57 #[.pointer (some ⟨g, 0, none⟩), .int .i64 y.f0] W fun e w' => e = .returned (.int .i64 (wayI s.pos y.f0 s.per)) ∧ Below W.heap.size W w' := fun W hb => wayD_calls y.f0 (HS.out.below hb) hpos hper hyb
      unfold nearD at hst
      generalize wayI s.pos x.f0 s.per = u1 at *
      generalize wayI s.pos y.f0 s.per = u2 at *
      have HST0 := Aside0.mk hst
      clear hst hnl hr hxb hyb hlt hnlt
      go_upto_region 7 with (fail)
      refine start_ (n := 22) (S := fun w' => w'.cell? ⟨g, 5, none⟩ = some (.slice (some ad) l.length c) ∧ w'.cell? (ad.add (j * 2)) = some (.int .i64 x.f0) ∧ w'.cell? (ad.add (n * 2)) = some (.int .i64 y.f0)) (ds := [19]) #[false, false, false, false, false, false, false, false, false, false, false, false, false, false, false, false, false, false, false, false, false, false] (by kernel_rfl) rfl rfl ⟨c5, hx0, hy0⟩ (fun hHeld => ?_); refine with_tabW chD_tab7 chD_bits7 (fun HT_ HW_ => ?_)
      refine pure_ (i := 0) (N := some 25) (v := ?_) (a' := ?_) #[true, false, false, false, false, false, false, false, false, false, false, false, false, false, false, false, false, false, false, false, false, false] rfl rfl (any_of HT_.out (by kernel_rfl)) (fun _ _ _ h => h) (Or.inl ⟨by rfl, ?_⟩) ?_ ?_
      rotate_left
      · intro w'
        go_simp
        with_reducible rfl
      rotate_left
      · simp only [Act.put, List.setIfInBounds_toArray, List.set_cons_zero, List.set_cons_succ]
        rfl
      refine pure_ (i := 1) (N := some 26) (v := ?_) (a' := ?_) #[true, true, false, false, false, false, false, false, false, false, false, false, false, false, false, false, false, false, false, false, false, false] rfl rfl (any_of HT_.out (by kernel_rfl)) (fun _ _ _ h => h) (Or.inl ⟨by rfl, ?_⟩) ?_ ?_
      rotate_left
      · intro w'
        go_simp
        with_reducible rfl
      rotate_left
      · simp only [Act.put, List.setIfInBounds_toArray, List.set_cons_zero, List.set_cons_succ]
        rfl
      refine pure_ (i := 2) (N := some 27) (v := ?_) (a' := ?_) #[true, true, true, false, false, false, false, false, false, false, false, false, false, false, false, false, false, false, false, false, false, false] rfl rfl (any_of HT_.out (by kernel_rfl)) (fun _ _ _ h => h) (Or.inl ⟨by rfl, ?_⟩) ?_ ?_
      rotate_left
      · intro w'
        go_simp
        with_reducible rfl
      rotate_left
      · simp only [Act.put, List.setIfInBounds_toArray, List.set_cons_zero, List.set_cons_succ]
        rfl
      refine pure_ (i := 3) (N := some 28) (v := ?_) (a' := ?_) #[true, true, true, true, false, false, false, false, false, false, false, false, false, false, false, false, false, false, false, false, false, false] rfl rfl (any_of HT_.out (by kernel_rfl)) (fun _ _ _ h => h) (Or.inl ⟨by rfl, ?_⟩) ?_ ?_
      rotate_left
      · intro w'
        go_simp
        with_reducible rfl
      rotate_left
      · simp only [Act.put, List.setIfInBounds_toArray, List.set_cons_zero, List.set_cons_succ]
        rfl
      refine take_ (i := 4) (N := some 29) (v := ?_) (a' := ?_) #[true, true, true, true, true, false, false, false, false, false, false, false, false, false, false, false, false, false, false, false, false, false] rfl rfl (take_ofW HT_.out HW_.out (by kernel_rfl)) (fun _ _ _ h => h) (Or.inl ⟨by rfl, ?_⟩) hHeld ?_ ?_
      rotate_left
      · rintro w' ⟨s0, s1, s2⟩
        go_simp
        with_reducible rfl
      rotate_left
      · simp only [Act.put, List.setIfInBounds_toArray, List.set_cons_zero, List.set_cons_succ]
        rfl
      refine pure_ (i := 5) (N := some 30) (v := ?_) (a' := ?_) #[true, true, true, true, true, true, false, false, false, false, false, false, false, false, false, false, false, false, false, false, false, false] rfl rfl (any_of HT_.out (by kernel_rfl)) (fun _ _ _ h => h) (Or.inl ⟨by rfl, ?_⟩) ?_ ?_
      rotate_left
      · intro w'
        go_simp
        with_reducible rfl
      rotate_left
      · simp only [Act.put, List.setIfInBounds_toArray, List.set_cons_zero, List.set_cons_succ]
        rfl
      refine pure_ (i := 6) (N := some 31) (v := ?_) (a' := ?_) #[true, true, true, true, true, true, true, false, false, false, false, false, false, false, false, false, false, false, false, false, false, false] rfl rfl (any_of HT_.out (by kernel_rfl)) (fun _ _ _ h => h) (Or.inl ⟨by rfl, ?_⟩) ?_ ?_
      rotate_left
      · intro w'
        go_simp
        with_reducible rfl
      rotate_left
      · simp only [Act.put, List.setIfInBounds_toArray, List.set_cons_zero, List.set_cons_succ]
        rfl
      refine pure_ (i := 7) (N := some 32) (v := ?_) (a' := ?_) #[true, true, true, true, true, true, true, true, false, false, false, false, false, false, false, false, false, false, false, false, false, false] rfl rfl (any_of HT_.out (by kernel_rfl)) (fun _ _ _ h => h) (Or.inl ⟨by rfl, ?_⟩) ?_ ?_
      rotate_left
      · intro w'
        go_simp
        with_reducible rfl
      rotate_left
      · simp only [Act.put, List.setIfInBounds_toArray, List.set_cons_zero, List.set_cons_succ]
        rfl
      refine take_ (i := 8) (N := some 33) (v := ?_) (a' := ?_) #[true, true, true, true, true, true, true, true, true, false, false, false, false, false, false, false, false, false, false, false, false, false] rfl rfl (take_ofW HT_.out HW_.out (by kernel_rfl)) (fun _ _ _ h => h) (Or.inl ⟨by rfl, ?_⟩) hHeld ?_ ?_
      rotate_left
      · rintro w' ⟨s0, s1, s2⟩
        go_simp
        with_reducible rfl
      rotate_left
      · simp only [Act.put, List.setIfInBounds_toArray, List.set_cons_zero, List.set_cons_succ]
        rfl
      refine pure_ (i := 10) (N := some 35) (v := ?_) (a' := ?_) #[true, true, true, true, true, true, true, true, true, false, true, false, false, false, false, false, false, false, false, false, false, false] rfl rfl (any_of HT_.out (by kernel_rfl)) (fun _ _ _ h => h) (Or.inl ⟨by rfl, ?_⟩) ?_ ?_
      rotate_left
      · intro w'
        go_simp
        with_reducible rfl
      rotate_left
      · simp only [Act.put, List.setIfInBounds_toArray, List.set_cons_zero, List.set_cons_succ]
        rfl
      refine pure_ (i := 11) (N := some 36) (v := ?_) (a' := ?_) #[true, true, true, true, true, true, true, true, true, false, true, true, false, false, false, false, false, false, false, false, false, false] rfl rfl (any_of HT_.out (by kernel_rfl)) (fun _ _ _ h => h) (Or.inl ⟨by rfl, ?_⟩) ?_ ?_
      rotate_left
      · intro w'
        go_simp
        with_reducible rfl
      rotate_left
      · simp only [Act.put, List.setIfInBounds_toArray, List.set_cons_zero, List.set_cons_succ]
        rfl
      refine pure_ (i := 12) (N := some 37) (v := ?_) (a' := ?_) #[true, true, true, true, true, true, true, true, true, false, true, true, true, false, false, false, false, false, false, false, false, false] rfl rfl (any_of HT_.out (by kernel_rfl)) (fun _ _ _ h => h) (Or.inl ⟨by rfl, ?_⟩) ?_ ?_
      rotate_left
      · intro w'
        go_simp
        with_reducible rfl
      rotate_left
      · simp only [Act.put, List.setIfInBounds_toArray, List.set_cons_zero, List.set_cons_succ]
        rfl
      refine pure_ (i := 13) (N := some 38) (v := ?_) (a' := ?_) #[true, true, true, true, true, true, true, true, true, false, true, true, true, true, false, false, false, false, false, false, false, false] rfl rfl (any_of HT_.out (by kernel_rfl)) (fun _ _ _ h => h) (Or.inl ⟨by rfl, ?_⟩) ?_ ?_
      rotate_left
      · intro w'
        go_simp
        with_reducible rfl
      rotate_left
      · simp only [Act.put, List.setIfInBounds_toArray, List.set_cons_zero, List.set_cons_succ]
        rfl
      refine take_ (i := 14) (N := some 39) (v := ?_) (a' := ?_) #[true, true, true, true, true, true, true, true, true, false, true, true, true, true, true, false, false, false, false, false, false, false] rfl rfl (take_ofW HT_.out HW_.out (by kernel_rfl)) (fun _ _ _ h => h) (Or.inl ⟨by rfl, ?_⟩) hHeld ?_ ?_
      rotate_left
      · rintro w' ⟨s0, s1, s2⟩
        go_simp
        with_reducible rfl
      rotate_left
      · simp only [Act.put, List.setIfInBounds_toArray, List.set_cons_zero, List.set_cons_succ]
        rfl
      refine pure_ (i := 15) (N := some 40) (v := ?_) (a' := ?_) #[true, true, true, true, true, true, true, true, true, false, true, true, true, true, true, true, false, false, false, false, false, false] rfl rfl (any_of HT_.out (by kernel_rfl)) (fun _ _ _ h => h) (Or.inl ⟨by rfl, ?_⟩) ?_ ?_
      rotate_left
      · intro w'
        go_simp
        with_reducible rfl
      rotate_left
      · simp only [Act.put, List.setIfInBounds_toArray, List.set_cons_zero, List.set_cons_succ]
        rfl
      refine pure_ (i := 16) (N := some 41) (v := ?_) (a' := ?_) #[true, true, true, true, true, true, true, true, true, false, true, true, true, true, true, true, true, false, false, false, false, false] rfl rfl (any_of HT_.out (by kernel_rfl)) (fun _ _ _ h => h) (Or.inl ⟨by rfl, ?_⟩) ?_ ?_
      rotate_left
      · intro w'
        go_simp
        with_reducible rfl
      rotate_left
      · simp only [Act.put, List.setIfInBounds_toArray, List.set_cons_zero, List.set_cons_succ]
        rfl
      refine pure_ (i := 17) (N := some 42) (v := ?_) (a' := ?_) #[true, true, true, true, true, true, true, true, true, false, true, true, true, true, true, true, true, true, false, false, false, false] rfl rfl (any_of HT_.out (by kernel_rfl)) (fun _ _ _ h => h) (Or.inl ⟨by rfl, ?_⟩) ?_ ?_
      rotate_left
      · intro w'
        go_simp
        with_reducible rfl
      rotate_left
      · simp only [Act.put, List.setIfInBounds_toArray, List.set_cons_zero, List.set_cons_succ]
        rfl
      refine take_ (i := 18) (N := some 43) (v := ?_) (a' := ?_) #[true, true, true, true, true, true, true, true, true, false, true, true, true, true, true, true, true, true, true, false, false, false] rfl rfl (take_ofW HT_.out HW_.out (by kernel_rfl)) (fun _ _ _ h => h) (Or.inl ⟨by rfl, ?_⟩) hHeld ?_ ?_
      rotate_left
      · rintro w' ⟨s0, s1, s2⟩
        go_simp
        with_reducible rfl
      rotate_left
      · simp only [Act.put, List.setIfInBounds_toArray, List.set_cons_zero, List.set_cons_succ]
        rfl
      refine one_ (i := 9) (N := some 34) #[true, true, true, true, true, true, true, true, true, true, true, true, true, true, true, true, true, true, true, false, false, false] rfl rfl (one_of HT_.out (by kernel_rfl)) (by decide) (fun K hK => ?_)
      refine goes_ Try.func57 (by kernel_rfl) rfl #[.pointer (some ⟨g, 0, none⟩), .int .i64 x.f0] (by rfl) rfl rfl (by (try simp only [List.map_toArray, List.map_cons, List.map_nil]); rfl) ?_
      with_reducible refine (hw1 _ (below_drew hB.out)).mono ?_
      rintro e w2 ⟨rfl, hb2⟩
      have HB2 : Aside0 (Below w.heap.size w w2) := ⟨below_step (below_drew hB.out) hb2⟩
      refine ⟨_, rfl, ?_⟩
      have a0 := pw_cell_below hb2 hHeld.1
      have a1 := pw_cell_below hb2 hHeld.2.1
      have a2 := pw_cell_below hb2 hHeld.2.2
      clear hHeld
      refine hK.out _ _ ⟨a0, a1, a2⟩ (fun hHeld => ?_)
      clear hK K
      refine norm_ (a' := ?_) ?_ ?_
      rotate_left
      · show Act.put _ (some 34) _ = _
        simp only [Act.put, List.setIfInBounds_toArray, List.set_cons_zero, List.set_cons_succ]
        rfl
      refine last_ (i := 19) (N := some 44) #[true, true, true, true, true, true, true, true, true, true, true, true, true, true, true, true, true, true, true, true, false, false] rfl rfl (one_of HT_.out (by kernel_rfl)) (by decide) (fun K hK => ?_)
      refine goes_ Try.func57 (by kernel_rfl) rfl #[.pointer (some ⟨g, 0, none⟩), .int .i64 y.f0] (by rfl) rfl rfl (by (try simp only [List.map_toArray, List.map_cons, List.map_nil]); rfl) ?_
      with_reducible refine (hw2 _ HB2.out).mono ?_
      rintro e w3 ⟨rfl, hb3⟩
      have HB3 : Aside0 (Below w.heap.size w w3) := ⟨below_step HB2.out hb3⟩
      refine ⟨_, rfl, ?_⟩
      have b0 := pw_cell_below hb3 a0
      have b1 := pw_cell_below hb3 a1
      have b2 := pw_cell_below hb3 a2
      clear hHeld a0 a1 a2
      refine hK.out _ _ ?_
      clear hK K
      refine norm_ (a' := ?_) ?_ ?_
      rotate_left
      · show Act.put _ (some 44) _ = _
        simp only [Act.put, List.setIfInBounds_toArray, List.set_cons_zero, List.set_cons_succ]
        rfl
      refine pure_ (i := 20) (N := some 5) (v := ?_) (a' := ?_) #[true, true, true, true, true, true, true, true, true, true, true, true, true, true, true, true, true, true, true, true, true, false] rfl rfl (any_of HT_.out (by kernel_rfl)) (fun _ _ _ h => h) (Or.inl ⟨by rfl, ?_⟩) ?_ ?_
      rotate_left
      · intro w'
        go_simp
        with_reducible rfl
      rotate_left
      · simp only [Act.put, List.setIfInBounds_toArray, List.set_cons_zero, List.set_cons_succ]
        rfl
      refine pure_ (i := 21) (N := some 6) (v := ?_) (a' := ?_) #[true, true, true, true, true, true, true, true, true, true, true, true, true, true, true, true, true, true, true, true, true, true] rfl rfl (any_of HT_.out (by kernel_rfl)) (fun _ _ _ h => h) (Or.inl ⟨by rfl, ?_⟩) ?_ ?_
      rotate_left
      · intro w'
        go_simp
        with_reducible rfl
      rotate_left
      · simp only [Act.put, List.setIfInBounds_toArray, List.set_cons_zero, List.set_cons_succ]
        rfl
      refine done_ (done_of HT_.out (by kernel_rfl)) ?_
      clear hx0 hy0 c5 hw1 hw2 HB2
      by_cases h1 : u1 < u2
      · have d1 : decide (u1 < u2) = true := by simpa using h1
        have HST : Aside0 (nixD (nearD s) l (i + 1) = j) := ⟨by rw [show nixD (nearD s) l (i + 1) = _ from HST0.out, if_pos (by rw [d1]; rfl)]⟩
        clear h1
        go_wp2
        go_quiet (fail)
        go_wp2
        go_roundg k1
        case rel => exact ⟨i + 1, j + 1, by omega, ⟨by rw [hj.out]⟩, by rw [HST.out], by first | rfl | rw [ewi.out], ⟨pw_below_drewN HB3.out nq⟩⟩
        all_goals omega
      · have d1 : decide (u1 < u2) = false := by simpa using h1
        by_cases h2 : u1 = u2
        · subst h2
          have d2 : (u1 == u1) = true := by simp
          by_cases h3 : x.f0 < y.f0
          · have d3 : decide (x.f0 < y.f0) = true := by simpa using h3
            have HST : Aside0 (nixD (nearD s) l (i + 1) = j) := ⟨by rw [show nixD (nearD s) l (i + 1) = _ from HST0.out, if_pos (by rw [d1, d2, d3]; rfl)]⟩
            clear h1 h3
            go_wp2
            go_quiet (fail)
            go_wp2
            go_roundg k1
            case rel => exact ⟨i + 1, j + 1, by omega, ⟨by rw [hj.out]⟩, by rw [HST.out], by first | rfl | rw [ewi.out], ⟨pw_below_drewN HB3.out nq⟩⟩
            all_goals omega
          · have d3 : decide (x.f0 < y.f0) = false := by simpa using h3
            have HST : Aside0 (nixD (nearD s) l (i + 1) = n) := ⟨by rw [show nixD (nearD s) l (i + 1) = _ from HST0.out, if_neg (by rw [d1, d2, d3]; decide)]⟩
            clear h1 h3
            go_wp2
            go_quiet (fail)
            go_wp2
            go_roundg k1
            case rel => exact ⟨i + 1, j + 1, by omega, ⟨by rw [hj.out]⟩, by rw [HST.out], by first | rfl | rw [ewi.out], ⟨pw_below_drewN HB3.out nq⟩⟩
            all_goals omega
        · have d2 : (u1 == u2) = false := by simpa using h2
          have HST : Aside0 (nixD (nearD s) l (i + 1) = n) := ⟨by rw [show nixD (nearD s) l (i + 1) = _ from HST0.out, if_neg (by rw [d1, d2]; simp)]⟩
          clear h1 h2
          go_wp2
          go_quiet (fail)
          go_wp2
          go_roundg k1
          case rel => exact ⟨i + 1, j + 1, by omega, ⟨by rw [hj.out]⟩, by rw [HST.out], by first | rfl | rw [ewi.out], ⟨pw_below_drewN HB3.out nq⟩⟩
          all_goals omega
/-- Where the one is that the policy says, and whether it goes down then. -/
def chD (s : Sc) (l : List S86) : Int × Bool :=
  if s.p = 2 then ((nixD (nearD s) l (l.length - 1) : Nat), s.up)
  else if s.p = 3 then (if s.up = false then (if 0 ≤ bixD (upD s.pos) lowD l l.length then (bixD (upD s.pos) lowD l l.length, false) else (bixD (dnD s.pos) higD l l.length, true)) else (if 0 ≤ bixD (dnD s.pos) higD l l.length then (bixD (dnD s.pos) higD l l.length, true) else (bixD (upD s.pos) lowD l l.length, false)))
  else if s.p = 4 then (if 0 ≤ bixD (upD s.pos) lowD l l.length then (bixD (upD s.pos) lowD l l.length, s.up) else (bixD (upD 0) lowD l l.length, s.up)) else (0, s.up)
set_option maxHeartbeats 2000000 in
theorem chooseD_scan (g : Nat) (P : Nat → Prop) (s : Sc) (l : List S86) (w0 w : World) (hB : Below w0.heap.size w0 w) (h : DS w0.heap.size P w g s l) (hn : l.length < 1000) (hp3 : s.p = 3) :
    Calls Try.prog 56 #[.pointer (some ⟨g, 0, none⟩)] w fun e w' => e = .returned (.int .i64 (chD s l).1) ∧ DS w0.heap.size P w' g { s with up := (chD s l).2 } l ∧ Below w0.heap.size w0 w' ∧ Kept w w' P := by
  have HS := Aside0.mk h
  have HB := Aside0.mk hB
  obtain ⟨-, -, v, hg, -⟩ := h
  have c0 : w.cell? ⟨g, 0, none⟩ = some (.int .u8 3) := (blk_cell hg 0).trans (by rw [← hp3]; rfl)
  have c2 : w.cell? ⟨g, 2, none⟩ = some (.int .i64 s.pos) := (blk_cell hg 2).trans rfl
  clear hB
  cases hu : s.up with
  | true =>
    have c3 : w.cell? ⟨g, 3, none⟩ = some (.bool true) := (blk_cell hg 3).trans (by rw [← hu]; rfl)
    have h1 := fun W (hb : Below w.heap.size w W) => greatest_calls s.pos (HS.out.below hb) hn
    by_cases hp : 0 ≤ bixD (dnD s.pos) higD l l.length
    · have hr : chD s l = (bixD (dnD s.pos) higD l l.length, true) := by unfold chD; rw [if_neg (by omega), if_pos hp3, hu]; simp only [if_pos hp, if_false, Bool.true_eq_false]
      have hs' : ({ s with up := true } : Sc) = s := by rw [← hu]
      rw [hr, hs']
      have d1 : decide (0 ≤ bixD (dnD s.pos) higD l l.length) = true := decide_eq_true hp
      clear hr hs' hp hp3 hu hg
      generalize bixD (dnD s.pos) higD l l.length = r at *
      go_enter Try.func56, Try.ntmps56
      go_wp2_with (go_at_call 71; with_reducible refine (h1 _ (Below.refl _ _)).mono ?_; rintro e w6 ⟨rfl, hb6⟩)
      go_ret
      exact ⟨rfl, HS.out.below hb6, below_then HB.out HB.out.size hb6, kept_below _ hb6⟩
    · have hr : chD s l = (bixD (upD s.pos) lowD l l.length, false) := by unfold chD; rw [if_neg (by omega), if_pos hp3, hu]; simp only [if_neg hp, if_false, Bool.true_eq_false]
      rw [hr]
      have d1 : decide (0 ≤ bixD (dnD s.pos) higD l l.length) = false := decide_eq_false hp
      have HG := Aside0.mk hg
      clear hr hp hp3 hu hg
      generalize hq : bixD (dnD s.pos) higD l l.length = r at *
      clear hq
      obtain ⟨r2, hr2⟩ : ∃ r2, bixD (upD s.pos) lowD l l.length = r2 := ⟨_, rfl⟩
      rw [hr2]
      go_enter Try.func56, Try.ntmps56
      go_upto_region 22 with (go_at_call 71; with_reducible refine (h1 _ (Below.refl _ _)).mono ?_; rintro e w6 ⟨rfl, hb6⟩; have HB6 := Aside0.mk hb6; have f3 := blk_frozen (blk_below HG.out hb6) 3; have c4 := pw_cell_below hb6 c3; clear hb6)
      obtain ⟨hs2, hk2⟩ := DS.setc (HS.out.below HB6.out) 3 (.bool false) { s with up := false } (fun _ => rfl)
      have hB2 : Below w0.heap.size w0 (w6.setCell ⟨g, 3, none⟩ (.bool false)) := (below_then HB.out HB.out.size HB6.out).setCell (p := ⟨g, 3, none⟩) HS.out.base _
      have hK2 := kept_trans (kept_below P HB6.out) hk2
      obtain ⟨v2, hg2⟩ := hs2.held.imp (fun _ h => h.1)
      generalize w6.setCell ⟨g, 3, none⟩ (.bool false) = w7 at *
      have c2' : w7.cell? ⟨g, 2, none⟩ = some (.int .i64 s.pos) := (blk_cell hg2 2).trans rfl
      have h2 := least_calls s.pos hs2 hn
      rw [hr2] at h2
      have HS2 := Aside0.mk hs2
      have HB2 := Aside0.mk hB2
      have HK2 := Aside0.mk hK2
      clear hs2 hB2 hK2 hk2 hg2 c4 f3 c3 c2 hr2
      go_wp2_with (go_at_call 70; with_reducible refine h2.mono ?_; rintro e w8 ⟨rfl, hb8⟩)
      go_ret
      exact ⟨rfl, HS2.out.below hb8, below_then HB2.out HB2.out.size hb8, kept_trans HK2.out (kept_below _ hb8)⟩
  | false =>
    have c3 : w.cell? ⟨g, 3, none⟩ = some (.bool false) := (blk_cell hg 3).trans (by rw [← hu]; rfl)
    have h1 := fun W (hb : Below w.heap.size w W) => least_calls s.pos (HS.out.below hb) hn
    by_cases hp : 0 ≤ bixD (upD s.pos) lowD l l.length
    · have hr : chD s l = (bixD (upD s.pos) lowD l l.length, false) := by unfold chD; rw [if_neg (by omega), if_pos hp3, hu]; simp only [if_pos hp, if_true]
      have hs' : ({ s with up := false } : Sc) = s := by rw [← hu]
      rw [hr, hs']
      have d1 : decide (0 ≤ bixD (upD s.pos) lowD l l.length) = true := decide_eq_true hp
      clear hr hs' hp hp3 hu hg
      generalize bixD (upD s.pos) lowD l l.length = r at *
      go_enter Try.func56, Try.ntmps56
      go_wp2_with (go_at_call 70; with_reducible refine (h1 _ (Below.refl _ _)).mono ?_; rintro e w6 ⟨rfl, hb6⟩)
      go_ret
      exact ⟨rfl, HS.out.below hb6, below_then HB.out HB.out.size hb6, kept_below _ hb6⟩
    · have hr : chD s l = (bixD (dnD s.pos) higD l l.length, true) := by unfold chD; rw [if_neg (by omega), if_pos hp3, hu]; simp only [if_neg hp, if_true]
      rw [hr]
      have d1 : decide (0 ≤ bixD (upD s.pos) lowD l l.length) = false := decide_eq_false hp
      have HG := Aside0.mk hg
      clear hr hp hp3 hu hg
      generalize hq : bixD (upD s.pos) lowD l l.length = r at *
      clear hq
      obtain ⟨r2, hr2⟩ : ∃ r2, bixD (dnD s.pos) higD l l.length = r2 := ⟨_, rfl⟩
      rw [hr2]
      go_enter Try.func56, Try.ntmps56
      go_upto_region 17 with (go_at_call 70; with_reducible refine (h1 _ (Below.refl _ _)).mono ?_; rintro e w6 ⟨rfl, hb6⟩; have HB6 := Aside0.mk hb6; have f3 := blk_frozen (blk_below HG.out hb6) 3; have c4 := pw_cell_below hb6 c3; clear hb6)
      obtain ⟨hs2, hk2⟩ := DS.setc (HS.out.below HB6.out) 3 (.bool true) { s with up := true } (fun _ => rfl)
      have hB2 : Below w0.heap.size w0 (w6.setCell ⟨g, 3, none⟩ (.bool true)) := (below_then HB.out HB.out.size HB6.out).setCell (p := ⟨g, 3, none⟩) HS.out.base _
      have hK2 := kept_trans (kept_below P HB6.out) hk2
      obtain ⟨v2, hg2⟩ := hs2.held.imp (fun _ h => h.1)
      generalize w6.setCell ⟨g, 3, none⟩ (.bool true) = w7 at *
      have c2' : w7.cell? ⟨g, 2, none⟩ = some (.int .i64 s.pos) := (blk_cell hg2 2).trans rfl
      have h2 := greatest_calls s.pos hs2 hn
      rw [hr2] at h2
      have HS2 := Aside0.mk hs2
      have HB2 := Aside0.mk hB2
      have HK2 := Aside0.mk hK2
      clear hs2 hB2 hK2 hk2 hg2 c4 f3 c3 c2 hr2
      go_wp2_with (go_at_call 71; with_reducible refine h2.mono ?_; rintro e w8 ⟨rfl, hb8⟩)
      go_ret
      exact ⟨rfl, HS2.out.below hb8, below_then HB2.out HB2.out.size hb8, kept_trans HK2.out (kept_below _ hb8)⟩
set_option maxHeartbeats 2000000 in
theorem chooseD_cyclic (g : Nat) (P : Nat → Prop) (s : Sc) (l : List S86) (w0 w : World) (hB : Below w0.heap.size w0 w) (h : DS w0.heap.size P w g s l) (hn : l.length < 1000) (hp4 : s.p = 4) :
    Calls Try.prog 56 #[.pointer (some ⟨g, 0, none⟩)] w fun e w' => e = .returned (.int .i64 (chD s l).1) ∧ DS w0.heap.size P w' g { s with up := (chD s l).2 } l ∧ Below w0.heap.size w0 w' ∧ Kept w w' P := by
  have HS := Aside0.mk h
  have HB := Aside0.mk hB
  obtain ⟨-, -, v, hg, -⟩ := h
  have c0 : w.cell? ⟨g, 0, none⟩ = some (.int .u8 4) := (blk_cell hg 0).trans (by rw [← hp4]; rfl)
  have c2 : w.cell? ⟨g, 2, none⟩ = some (.int .i64 s.pos) := (blk_cell hg 2).trans rfl
  clear hB
  have h1 := fun W (hb : Below w.heap.size w W) => least_calls s.pos (HS.out.below hb) hn
  by_cases hp : 0 ≤ bixD (upD s.pos) lowD l l.length
  · have hr : chD s l = (bixD (upD s.pos) lowD l l.length, s.up) := by unfold chD; rw [if_neg (by omega), if_neg (by omega), if_pos hp4, if_pos hp]
    rw [hr]
    have d1 : decide (0 ≤ bixD (upD s.pos) lowD l l.length) = true := decide_eq_true hp
    clear hr hp hp4 hg
    generalize bixD (upD s.pos) lowD l l.length = r at *
    go_enter Try.func56, Try.ntmps56
    go_wp2_with (go_at_call 70; with_reducible refine (h1 _ (Below.refl _ _)).mono ?_; rintro e w6 ⟨rfl, hb6⟩)
    go_ret
    exact ⟨rfl, HS.out.below hb6, below_then HB.out HB.out.size hb6, kept_below _ hb6⟩
  · have hr : chD s l = (bixD (upD 0) lowD l l.length, s.up) := by unfold chD; rw [if_neg (by omega), if_neg (by omega), if_pos hp4, if_neg hp]
    rw [hr]
    have h2 := fun W (hb : Below w.heap.size w W) => least_calls 0 (HS.out.below hb) hn
    have d1 : decide (0 ≤ bixD (upD s.pos) lowD l l.length) = false := decide_eq_false hp
    clear hr hp hp4 hg
    generalize bixD (upD s.pos) lowD l l.length = r at *
    generalize bixD (upD 0) lowD l l.length = r2 at *
    go_enter Try.func56, Try.ntmps56
    go_wp2_with (first | (go_at_call 70; with_reducible refine (h1 _ (Below.refl _ _)).mono ?_; rintro e w6 ⟨rfl, hb6⟩; have HB6 := Aside0.mk hb6; clear hb6 h1) | (go_at_call 70; with_reducible refine (h2 _ HB6.out).mono ?_; rintro e w7 ⟨rfl, hb7⟩))
    go_ret
    have hb6 := below_step HB6.out hb7
    exact ⟨rfl, HS.out.below hb6, below_then HB.out HB.out.size hb6, kept_below _ hb6⟩
theorem chooseD_fifo (g : Nat) (P : Nat → Prop) (s : Sc) (l : List S86) (w0 w : World) (hB : Below w0.heap.size w0 w) (h : DS w0.heap.size P w g s l) (_hn : l.length < 1000) (h2 : s.p ≠ 2) (h3 : s.p ≠ 3) (h4 : s.p ≠ 4) :
    Calls Try.prog 56 #[.pointer (some ⟨g, 0, none⟩)] w fun e w' => e = .returned (.int .i64 (chD s l).1) ∧ DS w0.heap.size P w' g { s with up := (chD s l).2 } l ∧ Below w0.heap.size w0 w' ∧ Kept w w' P := by
  have HS := Aside0.mk h
  have HB := Aside0.mk hB
  have hr : chD s l = (0, s.up) := by unfold chD; rw [if_neg h2, if_neg h3, if_neg h4]
  rw [hr]
  obtain ⟨-, -, v, hg, -⟩ := h
  have c0 : w.cell? ⟨g, 0, none⟩ = some (.int .u8 s.p) := (blk_cell hg 0).trans rfl
  have d2 : (s.p == 2) = false := by simpa using h2
  have d3 : (s.p == 3) = false := by simpa using h3
  have d4 : (s.p == 4) = false := by simpa using h4
  clear hg hB h2 h3 h4 hr
  go_enter Try.func56, Try.ntmps56
  go_wp2
  go_ret
  exact ⟨rfl, HS.out, HB.out, Nat.le_refl _, fun _ _ _ => rfl⟩
theorem chooseD_calls (g : Nat) (P : Nat → Prop) (s : Sc) (l : List S86) (w0 w : World) (hB : Below w0.heap.size w0 w) (h : DS w0.heap.size P w g s l) (hn : l.length < 1000) (h0 : 0 < l.length) (hpos : Bl s.pos) (hper : Tr s.per) (hall : ∀ x ∈ l, Bl x.f0) :
    Calls Try.prog 56 #[.pointer (some ⟨g, 0, none⟩)] w fun e w' => e = .returned (.int .i64 (chD s l).1) ∧ DS w0.heap.size P w' g { s with up := (chD s l).2 } l ∧ Below w0.heap.size w0 w' ∧ Kept w w' P := by
  by_cases h2 : s.p = 2
  · have hr : chD s l = (((nixD (nearD s) l (l.length - 1) : Nat) : Int), s.up) := by unfold chD; rw [if_pos h2]
    rw [hr]
    exact (chooseD_near h hn h0 h2 hpos hper hall).mono (fun e w' ⟨he, hb⟩ => ⟨he, h.below hb, below_then hB hB.size hb, kept_below _ hb⟩)
  · by_cases h3 : s.p = 3
    · exact chooseD_scan g P s l w0 w hB h hn h3
    · by_cases h4 : s.p = 4
      · exact chooseD_cyclic g P s l w0 w hB h hn h4
      · exact chooseD_fifo g P s l w0 w hB h hn h2 h3 h4
end Go.Proofs.Ytfbjeiloefocgaa.CC
/-! Contracts of the document's arm: Next. -/
namespace Go.Proofs.Ytfbjeiloefocgaa.CC
open Go.RowKit Go.Proofs.Ytfbjeiloefocgaa.Fl Go.Proofs.Ytfbjeiloefocgaa.PL Go.Proofs.Ytfbjeiloefocgaa.PG Go.Proofs.YtfbjeiloefocgaaW.PrintWords Go.Proofs.YtfbjeiloefocgaaW.PrintLast Go.Proofs.YtfbjeiloefocgaaW.PrintMore
attribute [local go_sem] Oper.semAt_some

def oldD (x : S86) : Bool := decide (12 ≤ x.f1)
def olderD (x : S86) : S86 := ⟨x.f0, x.f1 + 1⟩
/-- Where the first one is, of those from one on, that waited too long; -1: there is none. -/
def sixD (l : List S86) (i : Nat) : Int := if (l.drop i).findIdx oldD < (l.drop i).length then ((i + (l.drop i).findIdx oldD : Nat) : Int) else -1
theorem sixD_end (l : List S86) : sixD l l.length = -1 := by
  unfold sixD
  rw [List.drop_length]
  rfl
theorem sixD_step (l : List S86) (i : Nat) (h : i < l.length) : sixD l i = if oldD l[i] = true then (i : Int) else sixD l (i + 1) := by
  unfold sixD
  rw [List.drop_eq_getElem_cons h, List.findIdx_cons, List.length_cons]
  cases hb : oldD l[i] with
  | true =>
    simp only [cond_true, if_true]
    rw [if_pos (by omega)]
    simp
  | false =>
    simp only [cond_false, Bool.false_eq_true, if_false]
    generalize (l.drop (i + 1)).findIdx oldD = q
    generalize (l.drop (i + 1)).length = r
    by_cases hq : q < r
    · rw [if_pos hq, if_pos (by omega)]; omega
    · rw [if_neg hq, if_neg (by omega)]
theorem olderD_get (m : List S86) (i : Nat) (hi : i < m.length) (h : i < ((m.take i).map olderD ++ m.drop i).length) : ((m.take i).map olderD ++ m.drop i)[i] = m[i] := by
  have e : ((m.take i).map olderD).length = i := by rw [List.length_map, List.length_take]; omega
  have : ((m.take i).map olderD ++ m.drop i)[i]? = some m[i] := by
    rw [List.getElem?_append_right (by omega), e, Nat.sub_self, List.getElem?_drop, Nat.add_zero, List.getElem?_eq_getElem hi]
  rw [List.getElem?_eq_getElem h] at this
  exact Option.some.inj this
theorem olderD_set (m : List S86) (i : Nat) (hi : i < m.length) : ((m.take i).map olderD ++ m.drop i).set i ⟨m[i].f0, m[i].f1 + 1⟩ = (m.take (i + 1)).map olderD ++ m.drop (i + 1) := by
  have e : ((m.take i).map olderD).length = i := by rw [List.length_map, List.length_take]; omega
  rw [List.take_succ_eq_append_getElem hi, List.map_append, List.drop_eq_getElem_cons hi, List.set_append_right _ _ (by omega), e, Nat.sub_self, List.set_cons_zero, List.append_assoc]
  rfl
theorem ds_blk {B : Nat} {P : Nat → Prop} {w : World} {g : Nat} {s : Sc} {l : List S86} (h : DS B P w g s l) : ∃ v, w.heap[g]? = some (.cells #[.int .u8 s.p, .int .i64 s.per, .int .i64 s.pos, .bool s.up, .int .i64 s.mv, v] 70 (0, 0)) := h.held.imp (fun _ h => h.1)
theorem kept_fresh {w w' : World} {P : Nat → Prop} {n : Nat} (h : Kept w w' (fun k => P k ∨ n ≤ k)) (hn : w.heap.size ≤ n) : Kept w w' P := ⟨h.1, fun k hk hS => h.2 k hk (fun e => e.elim hS (fun e => absurd hk (Nat.not_lt.2 (Nat.le_trans hn e))))⟩
theorem kept_more {w w' : World} {P Q : Nat → Prop} (h : Kept w w' P) (hq : ∀ k, P k → Q k) : Kept w w' Q := ⟨h.1, fun k hk hS => h.2 k hk (fun e => hS (hq k e))⟩
theorem NextD_nil (w : World) : Calls Try.prog 35 #[.pointer none] w fun e w' => e = .returned (.tuple #[.int .i64 0, .bool false]) ∧ w' = w := by
  go_enter Try.func35, Try.ntmps35
  go_wp2
  go_ret2
  exact ⟨rfl, rfl⟩
theorem NextD_none {B : Nat} {P : Nat → Prop} {w : World} {g : Nat} {s : Sc} (h : DS B P w g s []) : Calls Try.prog 35 #[.pointer (some ⟨g, 0, none⟩)] w fun e w' => e = .returned (.tuple #[.int .i64 0, .bool false]) ∧ w' = w := by
  obtain ⟨-, -, v, hg, hR⟩ := h
  obtain ⟨A, c, rfl, -, -⟩ := Kd.R_reads hR
  have c5 : w.cell? ⟨g, 5, none⟩ = some (.slice A 0 c) := (blk_cell hg 5).trans rfl
  clear hg hR
  go_enter Try.func35, Try.ntmps35
  go_wp2
  go_ret2
  exact ⟨rfl, rfl⟩
def nextD_T15 : Bool × List (List Nat × List Nat) := (true, [([], []), ([0], [0]), ([1], [1]), ([2], [2]), ([], []), ([], []), ([4, 5], [4, 5]), ([3, 6], [3, 6]), ([0, 0, 1, 2, 3, 4, 5, 6, 7], [0]), ([8, 0, 1, 2, 3, 4, 5, 6, 7], [8]), ([9, 7, 6, 0, 1, 2, 3, 4, 5, 6, 7], [7, 9])])
def nextD_B15 : List Nat := [0, 1, 3, 7, 0, 0, 48, 127, 255, 511, 1023]
theorem nextD_tab15 : rtab .any (opsOf Try.f35 15) = nextD_T15 := by kernel_rfl
theorem nextD_bits15 : waitsOk nextD_T15.2 nextD_B15 = true := by kernel_rfl
set_option maxRecDepth 100000 in
set_option maxHeartbeats 4000000 in
theorem NextD_ch (g : Nat) (P : Nat → Prop) (s : Sc) (l : List S86) (w0 w : World) (hB : Below w0.heap.size w0 w) (h : DS w0.heap.size P w g s l) (hn : l.length < 1000) (h0 : 0 < l.length) (hpos : Bl s.pos) (hper : Tr s.per) (hall : ∀ x ∈ l, Bl x.f0) (hage : ∀ x ∈ l, x.f1 < 1000000 ∧ 0 ≤ x.f1) (hmv : 0 ≤ s.mv ∧ s.mv < 1000000000) (x : S86) (u : Bool) (n : Nat) (hnl : n < l.length) (hx : l[n] = x) (hix : sixD l 0 = -1) (hch : chD s l = ((n : Int), u)) :
    Calls Try.prog 35 #[.pointer (some ⟨g, 0, none⟩)] w fun e w' => e = .returned (.tuple #[.int .i64 x.f0, .bool true]) ∧ DS w0.heap.size (fun k => P k ∨ w.heap.size ≤ k) w' g { s with up := u, mv := s.mv + wayI s.pos x.f0 s.per, pos := x.f0 } ((l.eraseIdx n).map olderD) ∧ Below w0.heap.size w0 w' ∧ Kept w w' P := by
  have HS := Aside0.mk h
  have HB0 := Aside0.mk hB
  have HAGE := Aside0.mk hage
  have HXB : Aside0 (Bl x.f0) := ⟨hall x (by rw [← hx]; exact List.getElem_mem hnl)⟩
  obtain ⟨gr0, cap0, hg, hR, hne0, hP0, hB00, hl0, hc0, hC0⟩ := ds_open h h0
  have c5 : w.cell? ⟨g, 5, none⟩ = some (.slice (some ⟨gr0, 0, none⟩) l.length cap0) := (blk_cell hg 5).trans rfl
  have c2 : w.cell? ⟨g, 2, none⟩ = some (.int .i64 s.pos) := (blk_cell hg 2).trans rfl
  have d0 : ((l.length : Int) == 0) = false := by rw [beq_eq_false_iff_ne]; omega
  have ew : wrap64 ((l.length : Int) - 1) = (l.length : Int) - 1 := by unfold wrap64; omega
  have HR := Aside0.mk hR
  have HG := Aside0.mk hg
  have hcho := chooseD_calls g P s l w0 w hB h hn h0 hpos hper hall
  rw [hch] at hcho
  clear h hB hage hall hR hg hC0 hch
  go_enter Try.func35, Try.ntmps35
  go_upto_region 5 with (fail)
  go_loopg [4, 5] l.length (fun kq v4 v5 w' => w = w' ∧ kq ≤ l.length ∧ v4 = .int .i64 (sixD l kq) ∧ v5 = .int .i64 ((kq : Int) - 1))
  case atStart => exact ⟨rfl, Nat.le_refl _, by rw [sixD_end], rfl⟩
  case round =>
    obtain ⟨rfl, hkq, rfl, rfl⟩ := hrel
    cases gk with
    | succ i =>
      have hlt : i < l.length := by omega
      obtain ⟨-, q1⟩ := (ds_cells HR.out i hlt).1
      have hst := sixD_step l i hlt
      have e1 : (((i + 1 : Nat) : Int) - 1) = (i : Int) := by omega
      have p1 : (0 ≤ (i : Int)) = True := eq_true (by omega)
      have p2 : ((i : Int) < (l.length : Int)) = True := eq_true (by omega)
      have d9 : decide (0 ≤ (i : Int)) = true := by simp
      have ewi : wrap64 ((i : Int) - 1) = (i : Int) - 1 := by unfold wrap64; omega
      simp only [e1]
      generalize l[i] = y at *
      cases hy : oldD y with
      | true =>
        have dy : decide (12 ≤ y.f1) = true := hy
        have HST : Aside0 (sixD l i = (i : Int)) := ⟨by rw [hst, if_pos hy]⟩
        clear hst hy
        go_wp2
        go_roundg i
        case rel => exact ⟨rfl, by omega, by rw [HST.out], by rfl⟩
        all_goals omega
      | false =>
        have dy : decide (12 ≤ y.f1) = false := hy
        have HST : Aside0 (sixD l i = sixD l (i + 1)) := ⟨by rw [hst, if_neg (by rw [hy]; decide)]⟩
        clear hst hy
        generalize sixD l (i + 1) = r at *
        go_wp2
        go_roundg i
        case rel => exact ⟨rfl, by omega, by rw [HST.out], by rfl⟩
        all_goals omega
    | zero =>
      have d9 : decide (0 ≤ ((0 : Nat) : Int) - 1) = false := by simp
      rw [hix]
      go_upto_region 14 with (go_at_call 56; with_reducible refine hcho.mono ?_; rintro e wa ⟨rfl, ha, hb, hk⟩; have HA := Aside0.mk ha; have HBa := Aside0.mk hb; have HKa := Aside0.mk hk; clear ha hb hk hcho)
      clear c5 c2 HR HG
      obtain ⟨gr, cap, hga, hR, -⟩ := ds_open HA.out (by omega)
      obtain ⟨q0, q1⟩ := (ds_cells hR n hnl).1
      rw [hx] at q0
      have c4 : wa.cell? ⟨g, 4, none⟩ = some (.int .i64 s.mv) := (blk_cell hga 4).trans rfl
      have c5 : wa.cell? ⟨g, 5, none⟩ = some (.slice (some ⟨gr, 0, none⟩) l.length cap) := (blk_cell hga 5).trans rfl
      have p1 : (0 ≤ (n : Int)) = True := eq_true (by omega)
      have p2 : ((n : Int) < (l.length : Int)) = True := eq_true (by omega)
      have hw1 : ∀ W, Below wa.heap.size wa W → Calls Try.prog 57 #[.pointer (some ⟨g, 0, none⟩), .int .i64 x.f0] W fun e w' => e = .returned (.int .i64 (wayI s.pos x.f0 s.per)) ∧ Below W.heap.size W w' := fun W hb => wayD_calls (s := { s with up := u }) x.f0 (HA.out.below hb) hpos hper HXB.out
      obtain ⟨d, hd⟩ : ∃ d, wayI s.pos x.f0 s.per = d := ⟨_, rfl⟩
      have hle := wayI_le s.pos x.f0 s.per hpos HXB.out hper
      rw [hd] at hle
      have EMV : Aside0 (wrap64 (s.mv + d) = s.mv + d) := ⟨by unfold wrap64; omega⟩
      have HD := Aside0.mk hd
      rw [hd] at hw1
      have HGA := Aside0.mk hga
      clear hga hd hle hR q1
      go_upto_region 15 with (fail)
      refine start_ (n := 11) (S := fun w' => w'.cell? ⟨g, 4, none⟩ = some (.int .i64 s.mv)) (ds := [10]) #[false, false, false, false, false, false, false, false, false, false, false] (by kernel_rfl) rfl rfl c4 (fun hHeld => ?_); refine with_tabW nextD_tab15 nextD_bits15 (fun HT_ HW_ => ?_)
      refine pure_ (i := 0) (N := some 74) (v := ?_) (a' := ?_) #[true, false, false, false, false, false, false, false, false, false, false] rfl rfl (any_of HT_.out (by kernel_rfl)) (fun _ _ _ h => h) (Or.inl ⟨by rfl, ?_⟩) ?_ ?_
      rotate_left
      · intro w'
        go_simp
        with_reducible rfl
      rotate_left
      · simp only [Act.put, List.setIfInBounds_toArray, List.set_cons_zero, List.set_cons_succ]
        rfl
      refine pure_ (i := 1) (N := some 75) (v := ?_) (a' := ?_) #[true, true, false, false, false, false, false, false, false, false, false] rfl rfl (any_of HT_.out (by kernel_rfl)) (fun _ _ _ h => h) (Or.inl ⟨by rfl, ?_⟩) ?_ ?_
      rotate_left
      · intro w'
        go_simp
        with_reducible rfl
      rotate_left
      · simp only [Act.put, List.setIfInBounds_toArray, List.set_cons_zero, List.set_cons_succ]
        rfl
      refine pure_ (i := 2) (N := some 76) (v := ?_) (a' := ?_) #[true, true, true, false, false, false, false, false, false, false, false] rfl rfl (any_of HT_.out (by kernel_rfl)) (fun _ _ _ h => h) (Or.inl ⟨by rfl, ?_⟩) ?_ ?_
      rotate_left
      · intro w'
        go_simp
        with_reducible rfl
      rotate_left
      · simp only [Act.put, List.setIfInBounds_toArray, List.set_cons_zero, List.set_cons_succ]
        rfl
      refine take_ (i := 3) (N := some 77) (v := ?_) (a' := ?_) #[true, true, true, true, false, false, false, false, false, false, false] rfl rfl (take_ofW HT_.out HW_.out (by kernel_rfl)) (fun _ _ _ h => h) (Or.inl ⟨by rfl, ?_⟩) hHeld ?_ ?_
      rotate_left
      · rintro w' s0
        go_simp
        with_reducible rfl
      rotate_left
      · simp only [Act.put, List.setIfInBounds_toArray, List.set_cons_zero, List.set_cons_succ]
        rfl
      refine pure_ (i := 4) (N := some 78) (v := ?_) (a' := ?_) #[true, true, true, true, true, false, false, false, false, false, false] rfl rfl (any_of HT_.out (by kernel_rfl)) (fun _ _ _ h => h) (Or.inl ⟨by rfl, ?_⟩) ?_ ?_
      rotate_left
      · intro w'
        go_simp
        with_reducible rfl
      rotate_left
      · simp only [Act.put, List.setIfInBounds_toArray, List.set_cons_zero, List.set_cons_succ]
        rfl
      refine pure_ (i := 5) (N := some 79) (v := ?_) (a' := ?_) #[true, true, true, true, true, true, false, false, false, false, false] rfl rfl (any_of HT_.out (by kernel_rfl)) (fun _ _ _ h => h) (Or.inl ⟨by rfl, ?_⟩) ?_ ?_
      rotate_left
      · intro w'
        go_simp
        with_reducible rfl
      rotate_left
      · simp only [Act.put, List.setIfInBounds_toArray, List.set_cons_zero, List.set_cons_succ]
        rfl
      refine one_ (i := 6) (N := some 80) #[true, true, true, true, true, true, true, false, false, false, false] rfl rfl (one_of HT_.out (by kernel_rfl)) (by decide) (fun K hK => ?_)
      refine goes_ Try.func57 (by kernel_rfl) rfl #[.pointer (some ⟨g, 0, none⟩), .int .i64 x.f0] (by rfl) rfl rfl (by (try simp only [List.map_toArray, List.map_cons, List.map_nil]); rfl) ?_
      with_reducible refine (hw1 _ (below_drew (Below.refl _ _))).mono ?_
      rintro e w2 ⟨rfl, hb2⟩
      have HB2 : Aside0 (Below wa.heap.size wa w2) := ⟨below_step (below_drew (Below.refl _ _)) hb2⟩
      refine ⟨_, rfl, ?_⟩
      have a0 := pw_cell_below hb2 hHeld
      clear hHeld
      refine hK.out _ _ a0 (fun hHeld => ?_)
      clear hK K
      refine norm_ (a' := ?_) ?_ ?_
      rotate_left
      · show Act.put _ (some 80) _ = _
        simp only [Act.put, List.setIfInBounds_toArray, List.set_cons_zero, List.set_cons_succ]
        rfl
      refine pure_ (i := 7) (N := some 81) (v := ?_) (a' := ?_) #[true, true, true, true, true, true, true, true, false, false, false] rfl rfl (any_of HT_.out (by kernel_rfl)) (fun _ _ _ h => h) (Or.inl ⟨by rfl, ?_⟩) ?_ ?_
      rotate_left
      · intro w'
        go_simp
        with_reducible rfl
      rotate_left
      · simp only [Act.put, List.setIfInBounds_toArray, List.set_cons_zero, List.set_cons_succ, i64_w]
        rfl
      refine pure_ (i := 8) (N := some 82) (v := ?_) (a' := ?_) #[true, true, true, true, true, true, true, true, true, false, false] rfl rfl (any_of HT_.out (by kernel_rfl)) (fun _ _ _ h => h) (Or.inl ⟨by rfl, ?_⟩) ?_ ?_
      rotate_left
      · intro w'
        go_simp
        with_reducible rfl
      rotate_left
      · simp only [Act.put, List.setIfInBounds_toArray, List.set_cons_zero, List.set_cons_succ]
        rfl
      refine pure_ (i := 9) (N := some 83) (v := ?_) (a' := ?_) #[true, true, true, true, true, true, true, true, true, true, false] rfl rfl (any_of HT_.out (by kernel_rfl)) (fun _ _ _ h => h) (Or.inl ⟨by rfl, ?_⟩) ?_ ?_
      rotate_left
      · intro w'
        go_simp
        with_reducible rfl
      rotate_left
      · simp only [Act.put, List.setIfInBounds_toArray, List.set_cons_zero, List.set_cons_succ]
        rfl
      refine last_ (i := 10) (N := none) #[true, true, true, true, true, true, true, true, true, true, true] rfl rfl (one_of HT_.out (by kernel_rfl)) (by decide) (fun K hK => ?_)
      have hs8 := hHeld
      have hf8 := blk_frozen (blk_below HGA.out HB2.out) 4
      refine skip_ (w1 := ?_) (by rfl) rfl ?_ ?_
      rotate_left
      · go_simp
        rfl
      refine hK.out _ _ ?_
      clear hK K
      refine done_ (done_of HT_.out (by kernel_rfl)) ?_
      simp only [EMV.out]
      obtain ⟨ha2, hk2⟩ := DS.setc (HA.out.below HB2.out) 4 (.int .i64 (s.mv + d)) { s with up := u, mv := s.mv + d } (fun _ => rfl)
      have hb2 : Below w0.heap.size w0 (w2.setCell ⟨g, 4, none⟩ (.int .i64 (s.mv + d))) := (below_then HBa.out HBa.out.size HB2.out).setCell (p := ⟨g, 4, none⟩) HA.out.base _
      have hk3 : Kept w (w2.setCell ⟨g, 4, none⟩ (.int .i64 (s.mv + d))) P := kept_trans HKa.out (kept_trans (kept_below P HB2.out) hk2)
      clear hw1 c4 a0 hk2 HKa HBa HGA hHeld hs8 hf8 q0 c5 p1 p2
      generalize w2.setCell ⟨g, 4, none⟩ (.int .i64 (s.mv + d)) = wb at *
      obtain ⟨vb, hgb⟩ := ds_blk ha2
      have c2 : wb.cell? ⟨g, 2, none⟩ = some (.int .i64 s.pos) := (blk_cell hgb 2).trans rfl
      have f2 := blk_frozen hgb 2
      have HA2 := Aside0.mk ha2
      have HBb := Aside0.mk hb2
      have HKb := Aside0.mk hk3
      clear ha2 hb2 hk3 hgb
      go_upto_region 17 with (fail)
      obtain ⟨ha3, hk4⟩ := DS.setc HA2.out 2 (.int .i64 x.f0) { s with up := u, mv := s.mv + d, pos := x.f0 } (fun _ => rfl)
      have hb3 : Below w0.heap.size w0 (wb.setCell ⟨g, 2, none⟩ (.int .i64 x.f0)) := HBb.out.setCell (p := ⟨g, 2, none⟩) HA2.out.base _
      have hk5 : Kept w (wb.setCell ⟨g, 2, none⟩ (.int .i64 x.f0)) P := kept_trans HKb.out hk4
      clear c2 f2 hk4
      generalize wb.setCell ⟨g, 2, none⟩ (.int .i64 x.f0) = wc at *
      have hcan := dropD_calls g P _ l n w0 wc hb3 ha3 hn hnl
      have HKc := Aside0.mk hk5
      clear ha3 hb3 hk5
      have hml : (l.eraseIdx n).length ≤ l.length := by rw [List.length_eraseIdx]; split <;> omega
      have hmm : ∀ y ∈ l.eraseIdx n, y.f1 < 1000000 ∧ 0 ≤ y.f1 := fun y hy => HAGE.out y (List.mem_of_mem_eraseIdx hy)
      obtain ⟨m, hm⟩ : ∃ m, l.eraseIdx n = m := ⟨_, rfl⟩
      have HM := Aside0.mk hm
      rw [hm] at hcan hml hmm
      have HMM := Aside0.mk hmm
      have hmn : m.length < 1000 := Nat.lt_of_le_of_lt hml hn
      clear hm hmm hml
      have hsz := HKc.out.1
      obtain ⟨PP, hPP⟩ : ∃ PP : Nat → Prop, PP = (fun k => P k ∨ wc.heap.size ≤ k) := ⟨_, rfl⟩
      rw [← hPP] at hcan
      go_upto_region 18 with (go_at_call 58; with_reducible refine hcan.mono ?_; rintro e wd ⟨rfl, had, hbd, hkd⟩; have HAD := Aside0.mk had; have HBD := Aside0.mk hbd; have HKD : Aside0 (Kept w wd PP) := ⟨kept_more (kept_trans HKc.out hkd) (fun k hk => by rw [hPP]; exact .inl hk)⟩; clear had hbd hkd hcan)
      go_wp2
      go_loopg [8] m.length (fun kq v8 w' => ∃ i : Nat, i + kq = m.length ∧ v8 = .int .i64 (i : Int) ∧ Aside0 (DS w0.heap.size PP w' g { s with up := u, mv := s.mv + d, pos := x.f0 } ((m.take i).map olderD ++ m.drop i)) ∧ Aside0 (Below w0.heap.size w0 w') ∧ Aside0 (Kept w w' PP))
      case atStart => exact ⟨0, by omega, rfl, ⟨by simpa using HAD.out⟩, HBD, HKD⟩
      case round =>
        obtain ⟨i, hi, rfl, HAi, HBi, HKi⟩ := hrel
        clear HAD HBD HKD
        have el : ((m.take i).map olderD ++ m.drop i).length = m.length := by simp; omega
        cases gk with
        | zero =>
          obtain rfl : i = m.length := by omega
          have c0 : decide ((m.length : Int) < (m.length : Int)) = false := by simp
          have c5 : ∃ A5 cp5, wr.cell? ⟨g, 5, none⟩ = some (.slice A5 m.length cp5) := by
            obtain ⟨-, -, v5, hg5, hR5⟩ := HAi.out
            obtain ⟨A5, cp5, rfl, -, -⟩ := Kd.R_reads hR5
            rw [el] at hg5
            exact ⟨A5, cp5, (blk_cell hg5 5).trans rfl⟩
          obtain ⟨A5, cp5, c5⟩ := c5
          go_wp2
          go_ret2
          have := HAi.out
          rw [List.take_length, List.drop_length, List.append_nil, ← HM.out, ← HD.out] at this
          refine ⟨rfl, this.mono (fun k hk => ?_), HBi.out, ?_⟩
          · rw [hPP] at hk
            exact hk.imp (fun h => h) (fun h => Nat.le_trans hsz h)
          · have h9 := HKi.out
            rw [hPP] at h9
            exact kept_fresh h9 hsz
        | succ k1 =>
          have hlt : i < m.length := by omega
          have c0 : decide ((i : Int) < (m.length : Int)) = true := by simp; omega
          obtain ⟨gr, cap, hg6, hR6, hne6, hP6, hB6, hl6, hc6, -⟩ := ds_open HAi.out (by rw [el]; omega)
          obtain ⟨q0, q1⟩ := (ds_cells hR6 i (by rw [el]; exact hlt)).1
          have qf := (ds_cells hR6 i (by rw [el]; exact hlt)).2 1
          have egi : ((m.take i).map olderD ++ m.drop i)[i]'(by rw [el]; exact hlt) = m[i] := olderD_get m i hlt _
          rw [egi] at q0 q1
          rw [el] at hg6 hR6
          have c5 : wr.cell? ⟨g, 5, none⟩ = some (.slice (some ⟨gr, 0, none⟩) m.length cap) := (blk_cell hg6 5).trans rfl
          have p1 : (0 ≤ (i : Int)) = True := eq_true (by omega)
          have p2 : ((i : Int) < (m.length : Int)) = True := eq_true (by omega)
          have hag := HMM.out m[i] (List.getElem_mem hlt)
          have ewi : Aside0 (wrap64 ((i : Int) + 1) = ((i + 1 : Nat) : Int)) := ⟨by unfold wrap64; omega⟩
          have ewa : wrap64 (m[i].f1 + 1) = m[i].f1 + 1 := by unfold wrap64; omega
          have eset : ((m.take i).map olderD ++ m.drop i).set i ⟨m[i].f0, m[i].f1 + 1⟩ = (m.take (i + 1)).map olderD ++ m.drop (i + 1) := olderD_set m i hlt
          obtain ⟨r1, r2⟩ := ds_put (l := (m.take i).map olderD ++ m.drop i) hR6 i (by rw [el]; exact hlt) (m[i].f1 + 1)
          rw [egi, eset] at r1
          have hput := DS.put (l := (m.take i).map olderD ++ m.drop i) (row2 := (m.take (i + 1)).map olderD ++ m.drop (i + 1)) (s := { s with up := u, mv := s.mv + d, pos := x.f0 }) HAi.out.base HAi.out.mine hP6 hne6 (by simp; omega) (by rw [el]; exact hg6) (by rw [el]; exact r1) r2
          have hBp := below_grown HBi.out r2 hB6 HBi.out.size
          have HPUT := Aside0.mk hput
          have HBP := Aside0.mk hBp
          clear r1 r2 hput hBp eset egi hg6 hR6 hag q0
          generalize m[i].f1 = ag0 at *
          go_wp2
          go_roundg k1
          case rel => exact ⟨i + 1, by omega, by first | rfl | rw [ewi.out], ⟨HPUT.out.1⟩, HBP, ⟨kept_trans HKi.out HPUT.out.2⟩⟩
          all_goals omega

set_option maxRecDepth 100000 in
set_option maxHeartbeats 4000000 in
theorem NextD_same (g : Nat) (P : Nat → Prop) (s : Sc) (l : List S86) (w0 w : World) (hB : Below w0.heap.size w0 w) (h : DS w0.heap.size P w g s l) (hn : l.length < 1000) (h0 : 0 < l.length) (hpos : Bl s.pos) (hper : Tr s.per) (hall : ∀ x ∈ l, Bl x.f0) (hage : ∀ x ∈ l, x.f1 < 1000000 ∧ 0 ≤ x.f1) (hmv : 0 ≤ s.mv ∧ s.mv < 1000000000) (x : S86) (u : Bool) (n : Nat) (hnl : n < l.length) (hx : l[n] = x) (hix : sixD l 0 = (n : Int)) (hs : x.f0 = s.pos) (hu : u = s.up) :
    Calls Try.prog 35 #[.pointer (some ⟨g, 0, none⟩)] w fun e w' => e = .returned (.tuple #[.int .i64 x.f0, .bool true]) ∧ DS w0.heap.size (fun k => P k ∨ w.heap.size ≤ k) w' g { s with up := u, mv := s.mv + wayI s.pos x.f0 s.per, pos := x.f0 } ((l.eraseIdx n).map olderD) ∧ Below w0.heap.size w0 w' ∧ Kept w w' P := by
  have HS := Aside0.mk h
  have HB0 := Aside0.mk hB
  have HAGE := Aside0.mk hage
  have HXB : Aside0 (Bl x.f0) := ⟨hall x (by rw [← hx]; exact List.getElem_mem hnl)⟩
  obtain ⟨gr0, cap0, hg, hR, hne0, hP0, hB00, hl0, hc0, hC0⟩ := ds_open h h0
  have c5 : w.cell? ⟨g, 5, none⟩ = some (.slice (some ⟨gr0, 0, none⟩) l.length cap0) := (blk_cell hg 5).trans rfl
  have c2 : w.cell? ⟨g, 2, none⟩ = some (.int .i64 s.pos) := (blk_cell hg 2).trans rfl
  have d0 : ((l.length : Int) == 0) = false := by rw [beq_eq_false_iff_ne]; omega
  have ew : wrap64 ((l.length : Int) - 1) = (l.length : Int) - 1 := by unfold wrap64; omega
  have HR := Aside0.mk hR
  have HG := Aside0.mk hg
  have c3 : w.cell? ⟨g, 3, none⟩ = some (.bool s.up) := (blk_cell hg 3).trans rfl
  have f3 := blk_frozen hg 3
  obtain ⟨r0, -⟩ := (ds_cells hR n hnl).1
  rw [hx] at r0
  have d1 : decide (0 ≤ (n : Int)) = true := by simp
  have p1 : (0 ≤ (n : Int)) = True := eq_true (by omega)
  have p2 : ((n : Int) < (l.length : Int)) = True := eq_true (by omega)
  have d2 : (x.f0 == s.pos) = true := beq_iff_eq.2 hs
  have d3 : (x.f0 != s.pos) = false := by rw [bne, d2]; rfl
  clear h hB hage hall hR hg hC0 hs
  go_enter Try.func35, Try.ntmps35
  go_upto_region 5 with (fail)
  go_loopg [4, 5] l.length (fun kq v4 v5 w' => w = w' ∧ kq ≤ l.length ∧ v4 = .int .i64 (sixD l kq) ∧ v5 = .int .i64 ((kq : Int) - 1))
  case atStart => exact ⟨rfl, Nat.le_refl _, by rw [sixD_end], rfl⟩
  case round =>
    obtain ⟨rfl, hkq, rfl, rfl⟩ := hrel
    cases gk with
    | succ i =>
      have hlt : i < l.length := by omega
      obtain ⟨-, q1⟩ := (ds_cells HR.out i hlt).1
      have hst := sixD_step l i hlt
      have e1 : (((i + 1 : Nat) : Int) - 1) = (i : Int) := by omega
      have p1 : (0 ≤ (i : Int)) = True := eq_true (by omega)
      have p2 : ((i : Int) < (l.length : Int)) = True := eq_true (by omega)
      have d9 : decide (0 ≤ (i : Int)) = true := by simp
      have ewi : wrap64 ((i : Int) - 1) = (i : Int) - 1 := by unfold wrap64; omega
      simp only [e1]
      generalize l[i] = y at *
      cases hy : oldD y with
      | true =>
        have dy : decide (12 ≤ y.f1) = true := hy
        have HST : Aside0 (sixD l i = (i : Int)) := ⟨by rw [hst, if_pos hy]⟩
        clear hst hy
        go_wp2
        go_roundg i
        case rel => exact ⟨rfl, by omega, by rw [HST.out], by rfl⟩
        all_goals omega
      | false =>
        have dy : decide (12 ≤ y.f1) = false := hy
        have HST : Aside0 (sixD l i = sixD l (i + 1)) := ⟨by rw [hst, if_neg (by rw [hy]; decide)]⟩
        clear hst hy
        generalize sixD l (i + 1) = r at *
        go_wp2
        go_roundg i
        case rel => exact ⟨rfl, by omega, by rw [HST.out], by rfl⟩
        all_goals omega
    | zero =>
      have d9 : decide (0 ≤ ((0 : Nat) : Int) - 1) = false := by simp
      rw [hix]
      have hes : ({ s with up := u } : Sc) = s := by rw [hu]
      have HA : Aside0 (DS w0.heap.size P w g { s with up := u } l) := ⟨by rw [hes]; exact HS.out⟩
      clear hes hu
      go_upto_region 14 with (fail)
      obtain ⟨wa, hwa⟩ : ∃ wa, w = wa := ⟨_, rfl⟩
      have HA : Aside0 (DS w0.heap.size P wa g { s with up := u } l) := ⟨hwa ▸ HA.out⟩
      have HBa : Aside0 (Below w0.heap.size w0 wa) := ⟨hwa ▸ HB0.out⟩
      have HKa : Aside0 (Kept w wa P) := ⟨by rw [← hwa]; exact ⟨Nat.le_refl _, fun _ _ _ => rfl⟩⟩
      rw [show w = wa from hwa]
      clear r0 c3 c5 c2 f3 p1 p2 HR HG
      obtain ⟨gr, cap, hga, hR, -⟩ := ds_open HA.out (by omega)
      obtain ⟨q0, q1⟩ := (ds_cells hR n hnl).1
      rw [hx] at q0
      have c4 : wa.cell? ⟨g, 4, none⟩ = some (.int .i64 s.mv) := (blk_cell hga 4).trans rfl
      have c5 : wa.cell? ⟨g, 5, none⟩ = some (.slice (some ⟨gr, 0, none⟩) l.length cap) := (blk_cell hga 5).trans rfl
      have p1 : (0 ≤ (n : Int)) = True := eq_true (by omega)
      have p2 : ((n : Int) < (l.length : Int)) = True := eq_true (by omega)
      have hw1 : ∀ W, Below wa.heap.size wa W → Calls Try.prog 57 #[.pointer (some ⟨g, 0, none⟩), .int .i64 x.f0] W fun e w' => e = .returned (.int .i64 (wayI s.pos x.f0 s.per)) ∧ Below W.heap.size W w' := fun W hb => wayD_calls (s := { s with up := u }) x.f0 (HA.out.below hb) hpos hper HXB.out
      obtain ⟨d, hd⟩ : ∃ d, wayI s.pos x.f0 s.per = d := ⟨_, rfl⟩
      have hle := wayI_le s.pos x.f0 s.per hpos HXB.out hper
      rw [hd] at hle
      have EMV : Aside0 (wrap64 (s.mv + d) = s.mv + d) := ⟨by unfold wrap64; omega⟩
      have HD := Aside0.mk hd
      rw [hd] at hw1
      have HGA := Aside0.mk hga
      clear hga hd hle hR q1
      go_upto_region 15 with (fail)
      refine start_ (n := 11) (S := fun w' => w'.cell? ⟨g, 4, none⟩ = some (.int .i64 s.mv)) (ds := [10]) #[false, false, false, false, false, false, false, false, false, false, false] (by kernel_rfl) rfl rfl c4 (fun hHeld => ?_); refine with_tabW nextD_tab15 nextD_bits15 (fun HT_ HW_ => ?_)
      refine pure_ (i := 0) (N := some 74) (v := ?_) (a' := ?_) #[true, false, false, false, false, false, false, false, false, false, false] rfl rfl (any_of HT_.out (by kernel_rfl)) (fun _ _ _ h => h) (Or.inl ⟨by rfl, ?_⟩) ?_ ?_
      rotate_left
      · intro w'
        go_simp
        with_reducible rfl
      rotate_left
      · simp only [Act.put, List.setIfInBounds_toArray, List.set_cons_zero, List.set_cons_succ]
        rfl
      refine pure_ (i := 1) (N := some 75) (v := ?_) (a' := ?_) #[true, true, false, false, false, false, false, false, false, false, false] rfl rfl (any_of HT_.out (by kernel_rfl)) (fun _ _ _ h => h) (Or.inl ⟨by rfl, ?_⟩) ?_ ?_
      rotate_left
      · intro w'
        go_simp
        with_reducible rfl
      rotate_left
      · simp only [Act.put, List.setIfInBounds_toArray, List.set_cons_zero, List.set_cons_succ]
        rfl
      refine pure_ (i := 2) (N := some 76) (v := ?_) (a' := ?_) #[true, true, true, false, false, false, false, false, false, false, false] rfl rfl (any_of HT_.out (by kernel_rfl)) (fun _ _ _ h => h) (Or.inl ⟨by rfl, ?_⟩) ?_ ?_
      rotate_left
      · intro w'
        go_simp
        with_reducible rfl
      rotate_left
      · simp only [Act.put, List.setIfInBounds_toArray, List.set_cons_zero, List.set_cons_succ]
        rfl
      refine take_ (i := 3) (N := some 77) (v := ?_) (a' := ?_) #[true, true, true, true, false, false, false, false, false, false, false] rfl rfl (take_ofW HT_.out HW_.out (by kernel_rfl)) (fun _ _ _ h => h) (Or.inl ⟨by rfl, ?_⟩) hHeld ?_ ?_
      rotate_left
      · rintro w' s0
        go_simp
        with_reducible rfl
      rotate_left
      · simp only [Act.put, List.setIfInBounds_toArray, List.set_cons_zero, List.set_cons_succ]
        rfl
      refine pure_ (i := 4) (N := some 78) (v := ?_) (a' := ?_) #[true, true, true, true, true, false, false, false, false, false, false] rfl rfl (any_of HT_.out (by kernel_rfl)) (fun _ _ _ h => h) (Or.inl ⟨by rfl, ?_⟩) ?_ ?_
      rotate_left
      · intro w'
        go_simp
        with_reducible rfl
      rotate_left
      · simp only [Act.put, List.setIfInBounds_toArray, List.set_cons_zero, List.set_cons_succ]
        rfl
      refine pure_ (i := 5) (N := some 79) (v := ?_) (a' := ?_) #[true, true, true, true, true, true, false, false, false, false, false] rfl rfl (any_of HT_.out (by kernel_rfl)) (fun _ _ _ h => h) (Or.inl ⟨by rfl, ?_⟩) ?_ ?_
      rotate_left
      · intro w'
        go_simp
        with_reducible rfl
      rotate_left
      · simp only [Act.put, List.setIfInBounds_toArray, List.set_cons_zero, List.set_cons_succ]
        rfl
      refine one_ (i := 6) (N := some 80) #[true, true, true, true, true, true, true, false, false, false, false] rfl rfl (one_of HT_.out (by kernel_rfl)) (by decide) (fun K hK => ?_)
      refine goes_ Try.func57 (by kernel_rfl) rfl #[.pointer (some ⟨g, 0, none⟩), .int .i64 x.f0] (by rfl) rfl rfl (by (try simp only [List.map_toArray, List.map_cons, List.map_nil]); rfl) ?_
      with_reducible refine (hw1 _ (below_drew (Below.refl _ _))).mono ?_
      rintro e w2 ⟨rfl, hb2⟩
      have HB2 : Aside0 (Below wa.heap.size wa w2) := ⟨below_step (below_drew (Below.refl _ _)) hb2⟩
      refine ⟨_, rfl, ?_⟩
      have a0 := pw_cell_below hb2 hHeld
      clear hHeld
      refine hK.out _ _ a0 (fun hHeld => ?_)
      clear hK K
      refine norm_ (a' := ?_) ?_ ?_
      rotate_left
      · show Act.put _ (some 80) _ = _
        simp only [Act.put, List.setIfInBounds_toArray, List.set_cons_zero, List.set_cons_succ]
        rfl
      refine pure_ (i := 7) (N := some 81) (v := ?_) (a' := ?_) #[true, true, true, true, true, true, true, true, false, false, false] rfl rfl (any_of HT_.out (by kernel_rfl)) (fun _ _ _ h => h) (Or.inl ⟨by rfl, ?_⟩) ?_ ?_
      rotate_left
      · intro w'
        go_simp
        with_reducible rfl
      rotate_left
      · simp only [Act.put, List.setIfInBounds_toArray, List.set_cons_zero, List.set_cons_succ, i64_w]
        rfl
      refine pure_ (i := 8) (N := some 82) (v := ?_) (a' := ?_) #[true, true, true, true, true, true, true, true, true, false, false] rfl rfl (any_of HT_.out (by kernel_rfl)) (fun _ _ _ h => h) (Or.inl ⟨by rfl, ?_⟩) ?_ ?_
      rotate_left
      · intro w'
        go_simp
        with_reducible rfl
      rotate_left
      · simp only [Act.put, List.setIfInBounds_toArray, List.set_cons_zero, List.set_cons_succ]
        rfl
      refine pure_ (i := 9) (N := some 83) (v := ?_) (a' := ?_) #[true, true, true, true, true, true, true, true, true, true, false] rfl rfl (any_of HT_.out (by kernel_rfl)) (fun _ _ _ h => h) (Or.inl ⟨by rfl, ?_⟩) ?_ ?_
      rotate_left
      · intro w'
        go_simp
        with_reducible rfl
      rotate_left
      · simp only [Act.put, List.setIfInBounds_toArray, List.set_cons_zero, List.set_cons_succ]
        rfl
      refine last_ (i := 10) (N := none) #[true, true, true, true, true, true, true, true, true, true, true] rfl rfl (one_of HT_.out (by kernel_rfl)) (by decide) (fun K hK => ?_)
      have hs8 := hHeld
      have hf8 := blk_frozen (blk_below HGA.out HB2.out) 4
      refine skip_ (w1 := ?_) (by rfl) rfl ?_ ?_
      rotate_left
      · go_simp
        rfl
      refine hK.out _ _ ?_
      clear hK K
      refine done_ (done_of HT_.out (by kernel_rfl)) ?_
      simp only [EMV.out]
      obtain ⟨ha2, hk2⟩ := DS.setc (HA.out.below HB2.out) 4 (.int .i64 (s.mv + d)) { s with up := u, mv := s.mv + d } (fun _ => rfl)
      have hb2 : Below w0.heap.size w0 (w2.setCell ⟨g, 4, none⟩ (.int .i64 (s.mv + d))) := (below_then HBa.out HBa.out.size HB2.out).setCell (p := ⟨g, 4, none⟩) HA.out.base _
      have hk3 : Kept w (w2.setCell ⟨g, 4, none⟩ (.int .i64 (s.mv + d))) P := kept_trans HKa.out (kept_trans (kept_below P HB2.out) hk2)
      clear hw1 c4 a0 hk2 HKa HBa HGA hHeld hs8 hf8 q0 c5 p1 p2
      generalize w2.setCell ⟨g, 4, none⟩ (.int .i64 (s.mv + d)) = wb at *
      obtain ⟨vb, hgb⟩ := ds_blk ha2
      have c2 : wb.cell? ⟨g, 2, none⟩ = some (.int .i64 s.pos) := (blk_cell hgb 2).trans rfl
      have f2 := blk_frozen hgb 2
      have HA2 := Aside0.mk ha2
      have HBb := Aside0.mk hb2
      have HKb := Aside0.mk hk3
      clear ha2 hb2 hk3 hgb
      go_upto_region 17 with (fail)
      obtain ⟨ha3, hk4⟩ := DS.setc HA2.out 2 (.int .i64 x.f0) { s with up := u, mv := s.mv + d, pos := x.f0 } (fun _ => rfl)
      have hb3 : Below w0.heap.size w0 (wb.setCell ⟨g, 2, none⟩ (.int .i64 x.f0)) := HBb.out.setCell (p := ⟨g, 2, none⟩) HA2.out.base _
      have hk5 : Kept w (wb.setCell ⟨g, 2, none⟩ (.int .i64 x.f0)) P := kept_trans HKb.out hk4
      clear c2 f2 hk4
      generalize wb.setCell ⟨g, 2, none⟩ (.int .i64 x.f0) = wc at *
      have hcan := dropD_calls g P _ l n w0 wc hb3 ha3 hn hnl
      have HKc := Aside0.mk hk5
      clear ha3 hb3 hk5
      have hml : (l.eraseIdx n).length ≤ l.length := by rw [List.length_eraseIdx]; split <;> omega
      have hmm : ∀ y ∈ l.eraseIdx n, y.f1 < 1000000 ∧ 0 ≤ y.f1 := fun y hy => HAGE.out y (List.mem_of_mem_eraseIdx hy)
      obtain ⟨m, hm⟩ : ∃ m, l.eraseIdx n = m := ⟨_, rfl⟩
      have HM := Aside0.mk hm
      rw [hm] at hcan hml hmm
      have HMM := Aside0.mk hmm
      have hmn : m.length < 1000 := Nat.lt_of_le_of_lt hml hn
      clear hm hmm hml
      have hsz := HKc.out.1
      obtain ⟨PP, hPP⟩ : ∃ PP : Nat → Prop, PP = (fun k => P k ∨ wc.heap.size ≤ k) := ⟨_, rfl⟩
      rw [← hPP] at hcan
      go_upto_region 18 with (go_at_call 58; with_reducible refine hcan.mono ?_; rintro e wd ⟨rfl, had, hbd, hkd⟩; have HAD := Aside0.mk had; have HBD := Aside0.mk hbd; have HKD : Aside0 (Kept w wd PP) := ⟨kept_more (kept_trans HKc.out hkd) (fun k hk => by rw [hPP]; exact .inl hk)⟩; clear had hbd hkd hcan)
      go_wp2
      go_loopg [8] m.length (fun kq v8 w' => ∃ i : Nat, i + kq = m.length ∧ v8 = .int .i64 (i : Int) ∧ Aside0 (DS w0.heap.size PP w' g { s with up := u, mv := s.mv + d, pos := x.f0 } ((m.take i).map olderD ++ m.drop i)) ∧ Aside0 (Below w0.heap.size w0 w') ∧ Aside0 (Kept w w' PP))
      case atStart => exact ⟨0, by omega, rfl, ⟨by simpa using HAD.out⟩, HBD, HKD⟩
      case round =>
        obtain ⟨i, hi, rfl, HAi, HBi, HKi⟩ := hrel
        clear HAD HBD HKD
        have el : ((m.take i).map olderD ++ m.drop i).length = m.length := by simp; omega
        cases gk with
        | zero =>
          obtain rfl : i = m.length := by omega
          have c0 : decide ((m.length : Int) < (m.length : Int)) = false := by simp
          have c5 : ∃ A5 cp5, wr.cell? ⟨g, 5, none⟩ = some (.slice A5 m.length cp5) := by
            obtain ⟨-, -, v5, hg5, hR5⟩ := HAi.out
            obtain ⟨A5, cp5, rfl, -, -⟩ := Kd.R_reads hR5
            rw [el] at hg5
            exact ⟨A5, cp5, (blk_cell hg5 5).trans rfl⟩
          obtain ⟨A5, cp5, c5⟩ := c5
          go_wp2
          go_ret2
          have := HAi.out
          rw [List.take_length, List.drop_length, List.append_nil, ← HM.out, ← HD.out] at this
          refine ⟨rfl, this.mono (fun k hk => ?_), HBi.out, ?_⟩
          · rw [hPP] at hk
            exact hk.imp (fun h => h) (fun h => Nat.le_trans hsz h)
          · have h9 := HKi.out
            rw [hPP] at h9
            exact kept_fresh h9 hsz
        | succ k1 =>
          have hlt : i < m.length := by omega
          have c0 : decide ((i : Int) < (m.length : Int)) = true := by simp; omega
          obtain ⟨gr, cap, hg6, hR6, hne6, hP6, hB6, hl6, hc6, -⟩ := ds_open HAi.out (by rw [el]; omega)
          obtain ⟨q0, q1⟩ := (ds_cells hR6 i (by rw [el]; exact hlt)).1
          have qf := (ds_cells hR6 i (by rw [el]; exact hlt)).2 1
          have egi : ((m.take i).map olderD ++ m.drop i)[i]'(by rw [el]; exact hlt) = m[i] := olderD_get m i hlt _
          rw [egi] at q0 q1
          rw [el] at hg6 hR6
          have c5 : wr.cell? ⟨g, 5, none⟩ = some (.slice (some ⟨gr, 0, none⟩) m.length cap) := (blk_cell hg6 5).trans rfl
          have p1 : (0 ≤ (i : Int)) = True := eq_true (by omega)
          have p2 : ((i : Int) < (m.length : Int)) = True := eq_true (by omega)
          have hag := HMM.out m[i] (List.getElem_mem hlt)
          have ewi : Aside0 (wrap64 ((i : Int) + 1) = ((i + 1 : Nat) : Int)) := ⟨by unfold wrap64; omega⟩
          have ewa : wrap64 (m[i].f1 + 1) = m[i].f1 + 1 := by unfold wrap64; omega
          have eset : ((m.take i).map olderD ++ m.drop i).set i ⟨m[i].f0, m[i].f1 + 1⟩ = (m.take (i + 1)).map olderD ++ m.drop (i + 1) := olderD_set m i hlt
          obtain ⟨r1, r2⟩ := ds_put (l := (m.take i).map olderD ++ m.drop i) hR6 i (by rw [el]; exact hlt) (m[i].f1 + 1)
          rw [egi, eset] at r1
          have hput := DS.put (l := (m.take i).map olderD ++ m.drop i) (row2 := (m.take (i + 1)).map olderD ++ m.drop (i + 1)) (s := { s with up := u, mv := s.mv + d, pos := x.f0 }) HAi.out.base HAi.out.mine hP6 hne6 (by simp; omega) (by rw [el]; exact hg6) (by rw [el]; exact r1) r2
          have hBp := below_grown HBi.out r2 hB6 HBi.out.size
          have HPUT := Aside0.mk hput
          have HBP := Aside0.mk hBp
          clear r1 r2 hput hBp eset egi hg6 hR6 hag q0
          generalize m[i].f1 = ag0 at *
          go_wp2
          go_roundg k1
          case rel => exact ⟨i + 1, by omega, by first | rfl | rw [ewi.out], ⟨HPUT.out.1⟩, HBP, ⟨kept_trans HKi.out HPUT.out.2⟩⟩
          all_goals omega

set_option maxRecDepth 100000 in
set_option maxHeartbeats 4000000 in
theorem NextD_diff (g : Nat) (P : Nat → Prop) (s : Sc) (l : List S86) (w0 w : World) (hB : Below w0.heap.size w0 w) (h : DS w0.heap.size P w g s l) (hn : l.length < 1000) (h0 : 0 < l.length) (hpos : Bl s.pos) (hper : Tr s.per) (hall : ∀ x ∈ l, Bl x.f0) (hage : ∀ x ∈ l, x.f1 < 1000000 ∧ 0 ≤ x.f1) (hmv : 0 ≤ s.mv ∧ s.mv < 1000000000) (x : S86) (u : Bool) (n : Nat) (hnl : n < l.length) (hx : l[n] = x) (hix : sixD l 0 = (n : Int)) (hs : x.f0 ≠ s.pos) (hu : u = decide (x.f0 < s.pos)) :
    Calls Try.prog 35 #[.pointer (some ⟨g, 0, none⟩)] w fun e w' => e = .returned (.tuple #[.int .i64 x.f0, .bool true]) ∧ DS w0.heap.size (fun k => P k ∨ w.heap.size ≤ k) w' g { s with up := u, mv := s.mv + wayI s.pos x.f0 s.per, pos := x.f0 } ((l.eraseIdx n).map olderD) ∧ Below w0.heap.size w0 w' ∧ Kept w w' P := by
  have HS := Aside0.mk h
  have HB0 := Aside0.mk hB
  have HAGE := Aside0.mk hage
  have HXB : Aside0 (Bl x.f0) := ⟨hall x (by rw [← hx]; exact List.getElem_mem hnl)⟩
  obtain ⟨gr0, cap0, hg, hR, hne0, hP0, hB00, hl0, hc0, hC0⟩ := ds_open h h0
  have c5 : w.cell? ⟨g, 5, none⟩ = some (.slice (some ⟨gr0, 0, none⟩) l.length cap0) := (blk_cell hg 5).trans rfl
  have c2 : w.cell? ⟨g, 2, none⟩ = some (.int .i64 s.pos) := (blk_cell hg 2).trans rfl
  have d0 : ((l.length : Int) == 0) = false := by rw [beq_eq_false_iff_ne]; omega
  have ew : wrap64 ((l.length : Int) - 1) = (l.length : Int) - 1 := by unfold wrap64; omega
  have HR := Aside0.mk hR
  have HG := Aside0.mk hg
  have c3 : w.cell? ⟨g, 3, none⟩ = some (.bool s.up) := (blk_cell hg 3).trans rfl
  have f3 := blk_frozen hg 3
  obtain ⟨r0, -⟩ := (ds_cells hR n hnl).1
  rw [hx] at r0
  have d1 : decide (0 ≤ (n : Int)) = true := by simp
  have p1 : (0 ≤ (n : Int)) = True := eq_true (by omega)
  have p2 : ((n : Int) < (l.length : Int)) = True := eq_true (by omega)
  have d2 : (x.f0 == s.pos) = false := beq_eq_false_iff_ne.2 hs
  have d3 : (x.f0 != s.pos) = true := by rw [bne, d2]; rfl
  clear h hB hage hall hR hg hC0 hs
  go_enter Try.func35, Try.ntmps35
  go_upto_region 5 with (fail)
  go_loopg [4, 5] l.length (fun kq v4 v5 w' => w = w' ∧ kq ≤ l.length ∧ v4 = .int .i64 (sixD l kq) ∧ v5 = .int .i64 ((kq : Int) - 1))
  case atStart => exact ⟨rfl, Nat.le_refl _, by rw [sixD_end], rfl⟩
  case round =>
    obtain ⟨rfl, hkq, rfl, rfl⟩ := hrel
    cases gk with
    | succ i =>
      have hlt : i < l.length := by omega
      obtain ⟨-, q1⟩ := (ds_cells HR.out i hlt).1
      have hst := sixD_step l i hlt
      have e1 : (((i + 1 : Nat) : Int) - 1) = (i : Int) := by omega
      have p1 : (0 ≤ (i : Int)) = True := eq_true (by omega)
      have p2 : ((i : Int) < (l.length : Int)) = True := eq_true (by omega)
      have d9 : decide (0 ≤ (i : Int)) = true := by simp
      have ewi : wrap64 ((i : Int) - 1) = (i : Int) - 1 := by unfold wrap64; omega
      simp only [e1]
      generalize l[i] = y at *
      cases hy : oldD y with
      | true =>
        have dy : decide (12 ≤ y.f1) = true := hy
        have HST : Aside0 (sixD l i = (i : Int)) := ⟨by rw [hst, if_pos hy]⟩
        clear hst hy
        go_wp2
        go_roundg i
        case rel => exact ⟨rfl, by omega, by rw [HST.out], by rfl⟩
        all_goals omega
      | false =>
        have dy : decide (12 ≤ y.f1) = false := hy
        have HST : Aside0 (sixD l i = sixD l (i + 1)) := ⟨by rw [hst, if_neg (by rw [hy]; decide)]⟩
        clear hst hy
        generalize sixD l (i + 1) = r at *
        go_wp2
        go_roundg i
        case rel => exact ⟨rfl, by omega, by rw [HST.out], by rfl⟩
        all_goals omega
    | zero =>
      have d9 : decide (0 ≤ ((0 : Nat) : Int) - 1) = false := by simp
      rw [hix]
      have HU := Aside0.mk hu
      clear hu
      go_upto_region 14 with (fail)
      rw [← HU.out]
      obtain ⟨ha2, hk2⟩ := DS.setc HS.out 3 (.bool u) { s with up := u } (fun _ => rfl)
      have HBa : Aside0 (Below w0.heap.size w0 (w.setCell ⟨g, 3, none⟩ (.bool u))) := ⟨HB0.out.setCell (p := ⟨g, 3, none⟩) HS.out.base _⟩
      have HA := Aside0.mk ha2
      have HKa := Aside0.mk hk2
      clear ha2 hk2 r0 c3 c5 c2 f3 p1 p2 d1 d2 d3
      generalize w.setCell ⟨g, 3, none⟩ (.bool u) = wa at *
      obtain ⟨gr, cap, hga, hR, -⟩ := ds_open HA.out (by omega)
      obtain ⟨q0, q1⟩ := (ds_cells hR n hnl).1
      rw [hx] at q0
      have c4 : wa.cell? ⟨g, 4, none⟩ = some (.int .i64 s.mv) := (blk_cell hga 4).trans rfl
      have c5 : wa.cell? ⟨g, 5, none⟩ = some (.slice (some ⟨gr, 0, none⟩) l.length cap) := (blk_cell hga 5).trans rfl
      have p1 : (0 ≤ (n : Int)) = True := eq_true (by omega)
      have p2 : ((n : Int) < (l.length : Int)) = True := eq_true (by omega)
      have hw1 : ∀ W, Below wa.heap.size wa W → Calls Try.prog 57 #[.pointer (some ⟨g, 0, none⟩), .int .i64 x.f0] W fun e w' => e = .returned (.int .i64 (wayI s.pos x.f0 s.per)) ∧ Below W.heap.size W w' := fun W hb => wayD_calls (s := { s with up := u }) x.f0 (HA.out.below hb) hpos hper HXB.out
      obtain ⟨d, hd⟩ : ∃ d, wayI s.pos x.f0 s.per = d := ⟨_, rfl⟩
      have hle := wayI_le s.pos x.f0 s.per hpos HXB.out hper
      rw [hd] at hle
      have EMV : Aside0 (wrap64 (s.mv + d) = s.mv + d) := ⟨by unfold wrap64; omega⟩
      have HD := Aside0.mk hd
      rw [hd] at hw1
      have HGA := Aside0.mk hga
      clear hga hd hle hR q1
      go_upto_region 15 with (fail)
      refine start_ (n := 11) (S := fun w' => w'.cell? ⟨g, 4, none⟩ = some (.int .i64 s.mv)) (ds := [10]) #[false, false, false, false, false, false, false, false, false, false, false] (by kernel_rfl) rfl rfl c4 (fun hHeld => ?_); refine with_tabW nextD_tab15 nextD_bits15 (fun HT_ HW_ => ?_)
      refine pure_ (i := 0) (N := some 74) (v := ?_) (a' := ?_) #[true, false, false, false, false, false, false, false, false, false, false] rfl rfl (any_of HT_.out (by kernel_rfl)) (fun _ _ _ h => h) (Or.inl ⟨by rfl, ?_⟩) ?_ ?_
      rotate_left
      · intro w'
        go_simp
        with_reducible rfl
      rotate_left
      · simp only [Act.put, List.setIfInBounds_toArray, List.set_cons_zero, List.set_cons_succ]
        rfl
      refine pure_ (i := 1) (N := some 75) (v := ?_) (a' := ?_) #[true, true, false, false, false, false, false, false, false, false, false] rfl rfl (any_of HT_.out (by kernel_rfl)) (fun _ _ _ h => h) (Or.inl ⟨by rfl, ?_⟩) ?_ ?_
      rotate_left
      · intro w'
        go_simp
        with_reducible rfl
      rotate_left
      · simp only [Act.put, List.setIfInBounds_toArray, List.set_cons_zero, List.set_cons_succ]
        rfl
      refine pure_ (i := 2) (N := some 76) (v := ?_) (a' := ?_) #[true, true, true, false, false, false, false, false, false, false, false] rfl rfl (any_of HT_.out (by kernel_rfl)) (fun _ _ _ h => h) (Or.inl ⟨by rfl, ?_⟩) ?_ ?_
      rotate_left
      · intro w'
        go_simp
        with_reducible rfl
      rotate_left
      · simp only [Act.put, List.setIfInBounds_toArray, List.set_cons_zero, List.set_cons_succ]
        rfl
      refine take_ (i := 3) (N := some 77) (v := ?_) (a' := ?_) #[true, true, true, true, false, false, false, false, false, false, false] rfl rfl (take_ofW HT_.out HW_.out (by kernel_rfl)) (fun _ _ _ h => h) (Or.inl ⟨by rfl, ?_⟩) hHeld ?_ ?_
      rotate_left
      · rintro w' s0
        go_simp
        with_reducible rfl
      rotate_left
      · simp only [Act.put, List.setIfInBounds_toArray, List.set_cons_zero, List.set_cons_succ]
        rfl
      refine pure_ (i := 4) (N := some 78) (v := ?_) (a' := ?_) #[true, true, true, true, true, false, false, false, false, false, false] rfl rfl (any_of HT_.out (by kernel_rfl)) (fun _ _ _ h => h) (Or.inl ⟨by rfl, ?_⟩) ?_ ?_
      rotate_left
      · intro w'
        go_simp
        with_reducible rfl
      rotate_left
      · simp only [Act.put, List.setIfInBounds_toArray, List.set_cons_zero, List.set_cons_succ]
        rfl
      refine pure_ (i := 5) (N := some 79) (v := ?_) (a' := ?_) #[true, true, true, true, true, true, false, false, false, false, false] rfl rfl (any_of HT_.out (by kernel_rfl)) (fun _ _ _ h => h) (Or.inl ⟨by rfl, ?_⟩) ?_ ?_
      rotate_left
      · intro w'
        go_simp
        with_reducible rfl
      rotate_left
      · simp only [Act.put, List.setIfInBounds_toArray, List.set_cons_zero, List.set_cons_succ]
        rfl
      refine one_ (i := 6) (N := some 80) #[true, true, true, true, true, true, true, false, false, false, false] rfl rfl (one_of HT_.out (by kernel_rfl)) (by decide) (fun K hK => ?_)
      refine goes_ Try.func57 (by kernel_rfl) rfl #[.pointer (some ⟨g, 0, none⟩), .int .i64 x.f0] (by rfl) rfl rfl (by (try simp only [List.map_toArray, List.map_cons, List.map_nil]); rfl) ?_
      with_reducible refine (hw1 _ (below_drew (Below.refl _ _))).mono ?_
      rintro e w2 ⟨rfl, hb2⟩
      have HB2 : Aside0 (Below wa.heap.size wa w2) := ⟨below_step (below_drew (Below.refl _ _)) hb2⟩
      refine ⟨_, rfl, ?_⟩
      have a0 := pw_cell_below hb2 hHeld
      clear hHeld
      refine hK.out _ _ a0 (fun hHeld => ?_)
      clear hK K
      refine norm_ (a' := ?_) ?_ ?_
      rotate_left
      · show Act.put _ (some 80) _ = _
        simp only [Act.put, List.setIfInBounds_toArray, List.set_cons_zero, List.set_cons_succ]
        rfl
      refine pure_ (i := 7) (N := some 81) (v := ?_) (a' := ?_) #[true, true, true, true, true, true, true, true, false, false, false] rfl rfl (any_of HT_.out (by kernel_rfl)) (fun _ _ _ h => h) (Or.inl ⟨by rfl, ?_⟩) ?_ ?_
      rotate_left
      · intro w'
        go_simp
        with_reducible rfl
      rotate_left
      · simp only [Act.put, List.setIfInBounds_toArray, List.set_cons_zero, List.set_cons_succ, i64_w]
        rfl
      refine pure_ (i := 8) (N := some 82) (v := ?_) (a' := ?_) #[true, true, true, true, true, true, true, true, true, false, false] rfl rfl (any_of HT_.out (by kernel_rfl)) (fun _ _ _ h => h) (Or.inl ⟨by rfl, ?_⟩) ?_ ?_
      rotate_left
      · intro w'
        go_simp
        with_reducible rfl
      rotate_left
      · simp only [Act.put, List.setIfInBounds_toArray, List.set_cons_zero, List.set_cons_succ]
        rfl
      refine pure_ (i := 9) (N := some 83) (v := ?_) (a' := ?_) #[true, true, true, true, true, true, true, true, true, true, false] rfl rfl (any_of HT_.out (by kernel_rfl)) (fun _ _ _ h => h) (Or.inl ⟨by rfl, ?_⟩) ?_ ?_
      rotate_left
      · intro w'
        go_simp
        with_reducible rfl
      rotate_left
      · simp only [Act.put, List.setIfInBounds_toArray, List.set_cons_zero, List.set_cons_succ]
        rfl
      refine last_ (i := 10) (N := none) #[true, true, true, true, true, true, true, true, true, true, true] rfl rfl (one_of HT_.out (by kernel_rfl)) (by decide) (fun K hK => ?_)
      have hs8 := hHeld
      have hf8 := blk_frozen (blk_below HGA.out HB2.out) 4
      refine skip_ (w1 := ?_) (by rfl) rfl ?_ ?_
      rotate_left
      · go_simp
        rfl
      refine hK.out _ _ ?_
      clear hK K
      refine done_ (done_of HT_.out (by kernel_rfl)) ?_
      simp only [EMV.out]
      obtain ⟨ha2, hk2⟩ := DS.setc (HA.out.below HB2.out) 4 (.int .i64 (s.mv + d)) { s with up := u, mv := s.mv + d } (fun _ => rfl)
      have hb2 : Below w0.heap.size w0 (w2.setCell ⟨g, 4, none⟩ (.int .i64 (s.mv + d))) := (below_then HBa.out HBa.out.size HB2.out).setCell (p := ⟨g, 4, none⟩) HA.out.base _
      have hk3 : Kept w (w2.setCell ⟨g, 4, none⟩ (.int .i64 (s.mv + d))) P := kept_trans HKa.out (kept_trans (kept_below P HB2.out) hk2)
      clear hw1 c4 a0 hk2 HKa HBa HGA hHeld hs8 hf8 q0 c5 p1 p2
      generalize w2.setCell ⟨g, 4, none⟩ (.int .i64 (s.mv + d)) = wb at *
      obtain ⟨vb, hgb⟩ := ds_blk ha2
      have c2 : wb.cell? ⟨g, 2, none⟩ = some (.int .i64 s.pos) := (blk_cell hgb 2).trans rfl
      have f2 := blk_frozen hgb 2
      have HA2 := Aside0.mk ha2
      have HBb := Aside0.mk hb2
      have HKb := Aside0.mk hk3
      clear ha2 hb2 hk3 hgb
      go_upto_region 17 with (fail)
      obtain ⟨ha3, hk4⟩ := DS.setc HA2.out 2 (.int .i64 x.f0) { s with up := u, mv := s.mv + d, pos := x.f0 } (fun _ => rfl)
      have hb3 : Below w0.heap.size w0 (wb.setCell ⟨g, 2, none⟩ (.int .i64 x.f0)) := HBb.out.setCell (p := ⟨g, 2, none⟩) HA2.out.base _
      have hk5 : Kept w (wb.setCell ⟨g, 2, none⟩ (.int .i64 x.f0)) P := kept_trans HKb.out hk4
      clear c2 f2 hk4
      generalize wb.setCell ⟨g, 2, none⟩ (.int .i64 x.f0) = wc at *
      have hcan := dropD_calls g P _ l n w0 wc hb3 ha3 hn hnl
      have HKc := Aside0.mk hk5
      clear ha3 hb3 hk5
      have hml : (l.eraseIdx n).length ≤ l.length := by rw [List.length_eraseIdx]; split <;> omega
      have hmm : ∀ y ∈ l.eraseIdx n, y.f1 < 1000000 ∧ 0 ≤ y.f1 := fun y hy => HAGE.out y (List.mem_of_mem_eraseIdx hy)
      obtain ⟨m, hm⟩ : ∃ m, l.eraseIdx n = m := ⟨_, rfl⟩
      have HM := Aside0.mk hm
      rw [hm] at hcan hml hmm
      have HMM := Aside0.mk hmm
      have hmn : m.length < 1000 := Nat.lt_of_le_of_lt hml hn
      clear hm hmm hml
      have hsz := HKc.out.1
      obtain ⟨PP, hPP⟩ : ∃ PP : Nat → Prop, PP = (fun k => P k ∨ wc.heap.size ≤ k) := ⟨_, rfl⟩
      rw [← hPP] at hcan
      go_upto_region 18 with (go_at_call 58; with_reducible refine hcan.mono ?_; rintro e wd ⟨rfl, had, hbd, hkd⟩; have HAD := Aside0.mk had; have HBD := Aside0.mk hbd; have HKD : Aside0 (Kept w wd PP) := ⟨kept_more (kept_trans HKc.out hkd) (fun k hk => by rw [hPP]; exact .inl hk)⟩; clear had hbd hkd hcan)
      go_wp2
      go_loopg [8] m.length (fun kq v8 w' => ∃ i : Nat, i + kq = m.length ∧ v8 = .int .i64 (i : Int) ∧ Aside0 (DS w0.heap.size PP w' g { s with up := u, mv := s.mv + d, pos := x.f0 } ((m.take i).map olderD ++ m.drop i)) ∧ Aside0 (Below w0.heap.size w0 w') ∧ Aside0 (Kept w w' PP))
      case atStart => exact ⟨0, by omega, rfl, ⟨by simpa using HAD.out⟩, HBD, HKD⟩
      case round =>
        obtain ⟨i, hi, rfl, HAi, HBi, HKi⟩ := hrel
        clear HAD HBD HKD
        have el : ((m.take i).map olderD ++ m.drop i).length = m.length := by simp; omega
        cases gk with
        | zero =>
          obtain rfl : i = m.length := by omega
          have c0 : decide ((m.length : Int) < (m.length : Int)) = false := by simp
          have c5 : ∃ A5 cp5, wr.cell? ⟨g, 5, none⟩ = some (.slice A5 m.length cp5) := by
            obtain ⟨-, -, v5, hg5, hR5⟩ := HAi.out
            obtain ⟨A5, cp5, rfl, -, -⟩ := Kd.R_reads hR5
            rw [el] at hg5
            exact ⟨A5, cp5, (blk_cell hg5 5).trans rfl⟩
          obtain ⟨A5, cp5, c5⟩ := c5
          go_wp2
          go_ret2
          have := HAi.out
          rw [List.take_length, List.drop_length, List.append_nil, ← HM.out, ← HD.out] at this
          refine ⟨rfl, this.mono (fun k hk => ?_), HBi.out, ?_⟩
          · rw [hPP] at hk
            exact hk.imp (fun h => h) (fun h => Nat.le_trans hsz h)
          · have h9 := HKi.out
            rw [hPP] at h9
            exact kept_fresh h9 hsz
        | succ k1 =>
          have hlt : i < m.length := by omega
          have c0 : decide ((i : Int) < (m.length : Int)) = true := by simp; omega
          obtain ⟨gr, cap, hg6, hR6, hne6, hP6, hB6, hl6, hc6, -⟩ := ds_open HAi.out (by rw [el]; omega)
          obtain ⟨q0, q1⟩ := (ds_cells hR6 i (by rw [el]; exact hlt)).1
          have qf := (ds_cells hR6 i (by rw [el]; exact hlt)).2 1
          have egi : ((m.take i).map olderD ++ m.drop i)[i]'(by rw [el]; exact hlt) = m[i] := olderD_get m i hlt _
          rw [egi] at q0 q1
          rw [el] at hg6 hR6
          have c5 : wr.cell? ⟨g, 5, none⟩ = some (.slice (some ⟨gr, 0, none⟩) m.length cap) := (blk_cell hg6 5).trans rfl
          have p1 : (0 ≤ (i : Int)) = True := eq_true (by omega)
          have p2 : ((i : Int) < (m.length : Int)) = True := eq_true (by omega)
          have hag := HMM.out m[i] (List.getElem_mem hlt)
          have ewi : Aside0 (wrap64 ((i : Int) + 1) = ((i + 1 : Nat) : Int)) := ⟨by unfold wrap64; omega⟩
          have ewa : wrap64 (m[i].f1 + 1) = m[i].f1 + 1 := by unfold wrap64; omega
          have eset : ((m.take i).map olderD ++ m.drop i).set i ⟨m[i].f0, m[i].f1 + 1⟩ = (m.take (i + 1)).map olderD ++ m.drop (i + 1) := olderD_set m i hlt
          obtain ⟨r1, r2⟩ := ds_put (l := (m.take i).map olderD ++ m.drop i) hR6 i (by rw [el]; exact hlt) (m[i].f1 + 1)
          rw [egi, eset] at r1
          have hput := DS.put (l := (m.take i).map olderD ++ m.drop i) (row2 := (m.take (i + 1)).map olderD ++ m.drop (i + 1)) (s := { s with up := u, mv := s.mv + d, pos := x.f0 }) HAi.out.base HAi.out.mine hP6 hne6 (by simp; omega) (by rw [el]; exact hg6) (by rw [el]; exact r1) r2
          have hBp := below_grown HBi.out r2 hB6 HBi.out.size
          have HPUT := Aside0.mk hput
          have HBP := Aside0.mk hBp
          clear r1 r2 hput hBp eset egi hg6 hR6 hag q0
          generalize m[i].f1 = ag0 at *
          go_wp2
          go_roundg k1
          case rel => exact ⟨i + 1, by omega, by first | rfl | rw [ewi.out], ⟨HPUT.out.1⟩, HBP, ⟨kept_trans HKi.out HPUT.out.2⟩⟩
          all_goals omega

end Go.Proofs.Ytfbjeiloefocgaa.CC
