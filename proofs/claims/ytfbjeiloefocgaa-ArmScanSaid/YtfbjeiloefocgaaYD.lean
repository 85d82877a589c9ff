import Derived.Test.YtfbjeiloefocgaaYE
/-! Plain laws: the arm and the document's arm over one list. -/
namespace Go.Proofs.Ytfbjeiloefocgaa.CC
open Go.RowKit Go.Proofs.Ytfbjeiloefocgaa.Fl Go.Proofs.Ytfbjeiloefocgaa.PL Go.Proofs.Ytfbjeiloefocgaa.PG Go.Proofs.YtfbjeiloefocgaaW.PrintWords Go.Proofs.YtfbjeiloefocgaaW.PrintLast Go.Proofs.YtfbjeiloefocgaaW.PrintMore
def cv (x : S77) : S86 := ⟨x.f0, x.f1⟩
def dn (s : Sc) : Sc := { s with up := !s.up }
theorem ix_cv (l : List S77) (b : Int) : ix86 (l.map cv) b = ix77 l b := by
  unfold ix86 ix77
  rw [List.findIdx_map, List.length_map]
  rfl
theorem erase_cv (l : List S77) (n : Nat) : (l.map cv).eraseIdx n = (l.eraseIdx n).map cv := by
  rw [List.eraseIdx_eq_take_drop_succ, List.eraseIdx_eq_take_drop_succ, List.map_append, List.map_take, List.map_drop]
theorem ask_cv (l : List S77) (b : Int) (h : l.length ≤ 24) : askD (l.map cv) b = ((askA l b).1, (askA l b).2.map cv) := by
  unfold askD askA
  rw [ix_cv, List.length_map]
  split
  · rfl
  · split
    · rfl
    · by_cases h4 : l.length = 24
      · rw [if_pos (by omega), if_pos h4]
      · rw [if_neg (by omega), if_neg h4, List.map_append]; rfl
theorem cancel_cv (l : List S77) (b : Int) : cancelD (l.map cv) b = ((cancelA l b).1, (cancelA l b).2.map cv) := by
  unfold cancelD cancelA
  rw [ix_cv]
  split
  · rfl
  · rw [erase_cv]
theorem getD_cv (l : List S77) (n : Nat) : (l.map cv).getD n z86 = cv (l.getD n z77) := by
  rw [List.getD_eq_getElem?_getD, List.getD_eq_getElem?_getD, List.getElem?_map]
  cases l[n]? <;> rfl
theorem age_cv (l : List S77) (b : Int) : ageD (l.map cv) b = ageA l b := by
  unfold ageD ageA
  rw [ix_cv, getD_cv]
  rfl
theorem blocks_cv (l : List S77) : (l.map cv).map (·.f0) = l.map (·.f0) := by rw [List.map_map]; rfl
theorem six_cv (l : List S77) : sixD (l.map cv) 0 = oldix l := by
  unfold sixD oldix
  rw [List.drop_zero, List.findIdx_map, List.length_map]
  simp only [Nat.zero_add]
  rfl
theorem older_cv (l : List S77) : (l.map cv).map olderD = (l.map older).map cv := by rw [List.map_map, List.map_map]; rfl
theorem getD_take {l : List S77} {n i : Nat} (h : n < i) : (l.take i).getD n z77 = l.getD n z77 := by
  rw [List.getD_eq_getElem?_getD, List.getD_eq_getElem?_getD, List.getElem?_take_of_lt h]
theorem bix_is (p : S77 → Bool) (b : S77 → S77 → Bool) (p' : S86 → Bool) (b' : S86 → S86 → Bool) (l : List S77) (hp : ∀ x, p' (cv x) = p x) (hb : ∀ x y, b' (cv x) (cv y) = b x y) : ∀ i, i ≤ l.length →
    (bixD p' b' (l.map cv) i = -1 ∧ (l.take i).filter p = []) ∨ (∃ n : Nat, bixD p' b' (l.map cv) i = (n : Int) ∧ n < i ∧ 0 < ((l.take i).filter p).length ∧ l.getD n z77 = bst b ((l.take i).filter p))
  | 0, _ => .inl ⟨rfl, by simp⟩
  | i + 1, hi => by
    have hlt : i < l.length := by omega
    have e : (l.take (i + 1)).filter p = (l.take i).filter p ++ (if p l[i] = true then [l[i]] else []) := by
      rw [List.take_succ_eq_append_getElem hlt, List.filter_append]
      by_cases h : p l[i] = true <;> simp [h]
    have eg : l.getD i z77 = l[i] := getD77 l i hlt
    unfold bixD
    rw [getD_cv, hp, eg, e]
    rcases bix_is p b p' b' l hp hb i (by omega) with ⟨h1, h2⟩ | ⟨n, h1, h2, h3, h4⟩
    · rw [h1, h2]
      by_cases hq : p l[i] = true
      · right
        refine ⟨i, by rw [if_pos ⟨hq, .inl (by decide)⟩], by omega, ?_, ?_⟩
        · rw [if_pos hq]; simp
        · rw [if_pos hq, eg]; rfl
      · left
        refine ⟨by rw [if_neg (fun h => hq h.1)], by rw [if_neg hq]; rfl⟩
    · right
      rw [h1, Int.toNat_natCast, getD_cv, hb, h4]
      by_cases hq : p l[i] = true
      · rw [if_pos hq, bst_snoc _ _ _ h3]
        by_cases hr : b l[i] (bst b ((l.take i).filter p)) = true
        · refine ⟨i, by rw [if_pos ⟨hq, .inr hr⟩], by omega, by simp, by rw [if_pos hr, eg]⟩
        · refine ⟨n, by rw [if_neg (fun h => h.2.elim (fun h => absurd h (by omega)) hr)], by omega, by simp, by rw [if_neg hr, h4]⟩
      · rw [if_neg hq, List.append_nil]
        exact ⟨n, by rw [if_neg (fun h => hq h.1)], by omega, h3, h4⟩
theorem nix_is (b : S77 → S77 → Bool) (b' : S86 → S86 → Bool) (l : List S77) (hb : ∀ x y, b' (cv x) (cv y) = b x y) : ∀ i, i < l.length → l.getD (nixD b' (l.map cv) i) z77 = bst b (l.take (i + 1))
  | 0, h => by
    rw [List.take_succ_eq_append_getElem h]
    show l.getD 0 z77 = _
    rw [getD77 _ _ h]
    simp [bst]
  | i + 1, h => by
    have ih := nix_is b b' l hb i (by omega)
    have e : nixD b' (l.map cv) (i + 1) = if b' ((l.map cv).getD (i + 1) z86) ((l.map cv).getD (nixD b' (l.map cv) i) z86) = true then i + 1 else nixD b' (l.map cv) i := rfl
    rw [List.take_succ_eq_append_getElem h, bst_snoc _ _ _ (by rw [List.length_take]; omega), ← ih, e]
    rw [getD_cv, getD_cv, hb, getD77 _ _ h]
    split
    · rw [getD77 _ _ h]
    · rfl
theorem near_cv (s : Sc) (x y : S77) : nearD (dn s) (cv x) (cv y) = nearB s x y := by
  unfold nearD nearB dif
  show (decide (wayI s.pos x.f0 s.per < wayI s.pos y.f0 s.per) || (wayI s.pos x.f0 s.per == wayI s.pos y.f0 s.per && decide (x.f0 < y.f0))) = _
  generalize wayI s.pos x.f0 s.per = u
  generalize wayI s.pos y.f0 s.per = v
  have e1 : decide (u < v) = decide (u - v < 0) := by
    by_cases h : u < v
    · rw [decide_eq_true h, decide_eq_true (by omega)]
    · rw [decide_eq_false h, decide_eq_false (by omega)]
  have e2 : (u == v) = (u - v == 0) := by
    by_cases h : u = v
    · rw [beq_iff_eq.2 h, beq_iff_eq.2 (by omega)]
    · rw [beq_eq_false_iff_ne.2 h, beq_eq_false_iff_ne.2 (by omega)]
  rw [e1, e2]
/-- Which one the policy says, and whether it goes up then. -/
def choA (s : Sc) (l : List S77) : S77 × Bool := if s.p = 2 then (bst (nearB s) l, s.up) else if s.p = 3 then scanA s l else if s.p = 4 then (cycA s l, s.up) else (l.getD 0 z77, s.up)
theorem pick_old {s : Sc} {l : List S77} {n : Nat} (h : oldix l = (n : Int)) : pickA s l = (l.getD n z77, if (l.getD n z77).f0 = s.pos then s.up else decide (s.pos < (l.getD n z77).f0)) := by
  unfold pickA
  rw [h, if_pos (by omega), Int.toNat_natCast]
theorem pick_cho {s : Sc} {l : List S77} (h : oldix l = -1) : pickA s l = choA s l := by
  unfold pickA
  rw [h, if_neg (by decide)]
  rfl
theorem ch_cv {s : Sc} {l : List S77} (h0 : 0 < l.length) (hbl : ∀ x ∈ l, 0 ≤ x.f0) : ∃ n : Nat, n < l.length ∧ l.getD n z77 = (choA s l).1 ∧ chD (dn s) (l.map cv) = ((n : Int), !(choA s l).2) := by
  have HL := bix_is (upB s) lowB (upD s.pos) lowD l (fun _ => rfl) (fun _ _ => rfl) l.length (Nat.le_refl _)
  have HG := bix_is (dnB s) higB (dnD s.pos) higD l (fun _ => rfl) (fun _ _ => rfl) l.length (Nat.le_refl _)
  have H0 := bix_is (fun x => decide (0 ≤ x.f0)) lowB (upD 0) lowD l (fun _ => rfl) (fun _ _ => rfl) l.length (Nat.le_refl _)
  rw [List.take_length] at HL HG H0
  have hf0 : l.filter (fun x => decide (0 ≤ x.f0)) = l := List.filter_eq_self.2 (fun x hx => decide_eq_true (hbl x hx))
  rw [hf0] at H0
  unfold choA chD
  simp only [show (dn s).p = s.p from rfl, show (dn s).pos = s.pos from rfl, show (dn s).up = !s.up from rfl, List.length_map]
  by_cases h2 : s.p = 2
  · simp only [if_pos h2]
    refine ⟨nixD (nearD (dn s)) (l.map cv) (l.length - 1), ?_, ?_, rfl⟩
    · have := nixD_le (nearD (dn s)) (l.map cv) (l.length - 1)
      omega
    · rw [nix_is (nearB s) (nearD (dn s)) l (near_cv s) (l.length - 1) (by omega), show l.length - 1 + 1 = l.length by omega, List.take_length]
  · simp only [if_neg h2]
    by_cases h3 : s.p = 3
    · simp only [if_pos h3]
      unfold scanA
      cases hu : s.up with
      | true =>
        simp only [Bool.not_true, if_true]
        rcases HL with ⟨e1, e2⟩ | ⟨n, e1, e2, e3, e4⟩
        · rw [e1, e2]
          simp only [List.length_nil, Nat.lt_irrefl, if_false]
          rcases HG with ⟨e5, e6⟩ | ⟨n, e5, e6, e7, e8⟩
          · exfalso
            obtain ⟨x, hx⟩ := List.exists_mem_of_length_pos h0
            rcases up_or_dn s x with h | h
            · have := List.mem_filter.2 ⟨hx, h⟩
              rw [e2] at this
              cases this
            · have := List.mem_filter.2 ⟨hx, h⟩
              rw [e6] at this
              cases this
          · exact ⟨n, e6, e8, by rw [e5]; rfl⟩
        · rw [if_pos e3, e1, if_pos (by omega)]
          exact ⟨n, e2, e4, rfl⟩
      | false =>
        simp only [Bool.not_false, Bool.false_eq_true, if_false, Bool.true_eq_false]
        rcases HG with ⟨e1, e2⟩ | ⟨n, e1, e2, e3, e4⟩
        · rw [e1, e2]
          simp only [List.length_nil, Nat.lt_irrefl, if_false]
          rcases HL with ⟨e5, e6⟩ | ⟨n, e5, e6, e7, e8⟩
          · exfalso
            obtain ⟨x, hx⟩ := List.exists_mem_of_length_pos h0
            rcases up_or_dn s x with h | h
            · have := List.mem_filter.2 ⟨hx, h⟩
              rw [e6] at this
              cases this
            · have := List.mem_filter.2 ⟨hx, h⟩
              rw [e2] at this
              cases this
          · exact ⟨n, e6, e8, by rw [e5]; rfl⟩
        · rw [if_pos e3, e1, if_pos (by omega)]
          exact ⟨n, e2, e4, rfl⟩
    · simp only [if_neg h3]
      by_cases h4 : s.p = 4
      · simp only [if_pos h4]
        unfold cycA
        rcases HL with ⟨e1, e2⟩ | ⟨n, e1, e2, e3, e4⟩
        · rw [e1, e2]
          simp only [List.length_nil, Nat.lt_irrefl, if_false]
          rcases H0 with ⟨e5, e6⟩ | ⟨n, e5, e6, e7, e8⟩
          · rw [e6] at h0; exact absurd h0 (by simp)
          · exact ⟨n, e6, e8, by rw [e5]; rfl⟩
        · rw [if_pos e3, e1, if_pos (by omega)]
          exact ⟨n, e2, e4, rfl⟩
      · simp only [if_neg h4]
        exact ⟨0, h0, rfl, rfl⟩
/-- What holds of an arm that went to so many blocks. -/
structure Inv (N : Nat) (s : Sc) (l : List S77) : Prop where
  pol : 1 ≤ s.p ∧ s.p ≤ 4
  per : Tr s.per
  pos : Bl s.pos
  len : l.length ≤ 24
  nd : (l.map (·.f0)).Nodup
  bl : ∀ x ∈ l, Bl x.f0
  age : ∀ x ∈ l, 0 ≤ x.f1 ∧ x.f1 ≤ N
  mv : 0 ≤ s.mv ∧ s.mv ≤ 1086 * N
theorem Inv.lt {N : Nat} {s : Sc} {l : List S77} (h : Inv N s l) : l.length < 1000 := by have := h.len; omega
theorem Inv.more {N M : Nat} {s : Sc} {l : List S77} (h : Inv N s l) (hm : N ≤ M) : Inv M s l := ⟨h.pol, h.per, h.pos, h.len, h.nd, h.bl, fun x hx => ⟨(h.age x hx).1, by have := (h.age x hx).2; omega⟩, h.mv.1, by have := h.mv.2; omega⟩
theorem ix_nd {l : List S77} (h : (l.map (·.f0)).Nodup) {n : Nat} (hn : n < l.length) : ix77 l l[n].f0 = (n : Int) := by
  refine ix77_hit hn (by simp) (fun x hx => ?_)
  rw [beq_eq_false_iff_ne]
  intro e
  rw [List.mem_take_iff_getElem] at hx
  obtain ⟨j, hj, rfl⟩ := hx
  have hlt : j < l.length := by omega
  have := List.pairwise_iff_getElem.1 h j n (by rw [List.length_map]; exact hlt) (by rw [List.length_map]; exact hn) (by omega)
  simp only [List.getElem_map] at this
  exact this e
theorem drop_nd {l : List S77} (h : (l.map (·.f0)).Nodup) {n : Nat} (hn : n < l.length) : dropA l l[n].f0 = (l.eraseIdx n).map older := by
  unfold dropA cancelA
  rw [ix_nd h hn, if_neg (by omega), Int.toNat_natCast]
theorem cancel_sub (l : List S77) (b : Int) : (cancelA l b).2.Sublist l := by
  unfold cancelA
  split
  · exact List.Sublist.refl _
  · exact List.eraseIdx_sublist _ _
theorem older_blocks (l : List S77) : (l.map older).map (·.f0) = l.map (·.f0) := by rw [List.map_map]; rfl
theorem inv_cancel {N : Nat} {s : Sc} {l : List S77} (h : Inv N s l) (b : Int) : Inv N s (cancelA l b).2 :=
  ⟨h.pol, h.per, h.pos, Nat.le_trans (cancel_len l b) h.len, ((cancel_sub l b).map _).nodup h.nd, fun x hx => h.bl x (cancel_mem hx), fun x hx => h.age x (cancel_mem hx), h.mv⟩
theorem ix_neg {l : List S77} {b : Int} (h : ¬ 0 ≤ ix77 l b) : ∀ x ∈ l, x.f0 ≠ b := by
  unfold ix77 at h
  by_cases h1 : l.findIdx (fun x => x.f0 == b) < l.length
  · rw [if_pos h1] at h; omega
  · intro x hx e
    exact h1 (List.findIdx_lt_length.2 ⟨x, hx, by simpa using e⟩)
theorem ix_pos {l : List S77} {b : Int} (h : 0 ≤ ix77 l b) : ∃ x ∈ l, x.f0 = b := by
  unfold ix77 at h
  by_cases h1 : l.findIdx (fun x => x.f0 == b) < l.length
  · obtain ⟨x, hx, e⟩ := List.findIdx_lt_length.1 h1
    exact ⟨x, hx, by simpa using e⟩
  · rw [if_neg h1] at h; omega
theorem inv_ask {N : Nat} {s : Sc} {l : List S77} (h : Inv N s l) (b : Int) : Inv N s (askA l b).2 := by
  unfold askA
  by_cases h1 : b < 0 ∨ 1024 ≤ b
  · rw [if_pos h1]; exact h
  · rw [if_neg h1]
    by_cases h2 : 0 ≤ ix77 l b
    · rw [if_pos h2]; exact h
    · rw [if_neg h2]
      by_cases h3 : l.length = 24
      · rw [if_pos h3]; exact h
      · rw [if_neg h3]
        have hn := ix_neg h2
        have hl := h.len
        refine ⟨h.pol, h.per, h.pos, by simp; omega, ?_, ?_, ?_, h.mv⟩
        · rw [List.map_append, List.nodup_append]
          refine ⟨h.nd, by simp, fun a ha c hc e => ?_⟩
          simp only [List.map_cons, List.map_nil, List.mem_cons, List.not_mem_nil, or_false] at hc
          obtain ⟨x, hx, rfl⟩ := List.mem_map.1 ha
          exact hn x hx (e.trans hc)
        · intro x hx
          rcases List.mem_append.1 hx with hx | hx
          · exact h.bl x hx
          · obtain rfl := List.mem_singleton.1 hx
            exact ⟨by show 0 ≤ b; omega, by show b < 1024; omega⟩
        · intro x hx
          rcases List.mem_append.1 hx with hx | hx
          · exact h.age x hx
          · obtain rfl := List.mem_singleton.1 hx
            exact ⟨Int.le_refl _, by show (0 : Int) ≤ (N : Int); omega⟩
theorem inv_set {N : Nat} {s : Sc} {l : List S77} (h : Inv N s l) (p : Int) : Inv N (setA s p).2 l := by
  unfold setA
  by_cases h1 : 1 ≤ p ∧ p ≤ 4
  · rw [if_pos h1]; exact ⟨h1, h.per, h.pos, h.len, h.nd, h.bl, h.age, h.mv⟩
  · rw [if_neg h1]; exact h
def nextA (st : Sc × List S77) : Sc × List S77 := (goA st.1 (pickA st.1 st.2), dropA st.2 (pickA st.1 st.2).1.f0)
theorem inv_next {N : Nat} {s : Sc} {l : List S77} (h : Inv N s l) (h0 : 0 < l.length) : Inv (N + 1) (goA s (pickA s l)) (dropA l (pickA s l).1.f0) := by
  have hm := pick_mem (s := s) h0
  have hb := h.bl _ hm
  have hle := wayI_le s.pos _ s.per h.pos hb h.per
  have hc := inv_cancel h (pickA s l).1.f0
  have hm1 := h.mv.1
  have hm2 := h.mv.2
  refine ⟨h.pol, h.per, hb, by unfold dropA; rw [List.length_map]; exact hc.len, by unfold dropA; rw [older_blocks]; exact hc.nd, fun x hx => ?_, fun x hx => ?_, ?_, ?_⟩
  · obtain ⟨y, hy, rfl⟩ := List.mem_map.1 hx
    exact hc.bl y hy
  · obtain ⟨y, hy, rfl⟩ := List.mem_map.1 hx
    have h1 := hc.age y hy
    exact ⟨by show 0 ≤ y.f1 + 1; omega, by show y.f1 + 1 ≤ ((N + 1 : Nat) : Int); omega⟩
  · show 0 ≤ s.mv + wayI s.pos (pickA s l).1.f0 s.per
    omega
  · show s.mv + wayI s.pos (pickA s l).1.f0 s.per ≤ 1086 * ((N + 1 : Nat) : Int)
    omega
theorem inv_new (p per : Int) (h : okN p per) : Inv 0 ⟨p, per, 0, true, 0⟩ [] := ⟨⟨h.1, h.2.1⟩, ⟨h.2.2.1, h.2.2.2⟩, ⟨by show (0 : Int) ≤ 0; decide, by show (0 : Int) < 1024; decide⟩, by simp, by simp, by simp, by simp, by show (0 : Int) ≤ 0; decide, by show (0 : Int) ≤ 1086 * ((0 : Nat) : Int); decide⟩
/-- A deed. -/
def stepA (st : Sc × List S77) (kind n p : Int) : Sc × List S77 :=
  if kind = 0 then (st.1, (askA st.2 n).2) else if kind = 1 then (st.1, (cancelA st.2 n).2) else if kind = 2 then (if st.2.length = 0 then st else nextA st) else if kind = 3 then ((setA st.1 p).2, st.2) else st
theorem inv_step {N : Nat} {st : Sc × List S77} (h : Inv N st.1 st.2) (kind n p : Int) : Inv (N + 1) (stepA st kind n p).1 (stepA st kind n p).2 := by
  unfold stepA
  split
  · exact (inv_ask h n).more (by omega)
  · split
    · exact (inv_cancel h n).more (by omega)
    · split
      · split
        · exact h.more (by omega)
        · exact inv_next h (by omega)
      · split
        · exact (inv_set h p).more (by omega)
        · exact h.more (by omega)
/-- The document's arm goes where the arm goes. -/
theorem NextD_calls {N : Nat} (g : Nat) (P : Nat → Prop) (s : Sc) (l : List S77) (w0 w : World) (hB : Below w0.heap.size w0 w) (h : DS w0.heap.size P w g (dn s) (l.map cv)) (hi : Inv N s l) (hN : N < 900000) (h0 : 0 < l.length) :
    Calls Try.prog 35 #[.pointer (some ⟨g, 0, none⟩)] w fun e w' => e = .returned (.tuple #[.int .i64 (pickA s l).1.f0, .bool true]) ∧ DS w0.heap.size (fun k => P k ∨ w.heap.size ≤ k) w' g (dn (goA s (pickA s l))) ((dropA l (pickA s l).1.f0).map cv) ∧ Below w0.heap.size w0 w' ∧ Kept w w' P := by
  have hlen : (l.map cv).length < 1000 := by rw [List.length_map]; exact hi.lt
  have h0' : 0 < (l.map cv).length := by rw [List.length_map]; exact h0
  have hall : ∀ x ∈ l.map cv, Bl x.f0 := fun x hx => by
    obtain ⟨y, hy, rfl⟩ := List.mem_map.1 hx
    exact hi.bl y hy
  have hage : ∀ x ∈ l.map cv, x.f1 < 1000000 ∧ 0 ≤ x.f1 := fun x hx => by
    obtain ⟨y, hy, rfl⟩ := List.mem_map.1 hx
    have := hi.age y hy
    exact ⟨by show y.f1 < 1000000; omega, this.1⟩
  have hmv : 0 ≤ (dn s).mv ∧ (dn s).mv < 1000000000 := ⟨hi.mv.1, by show s.mv < 1000000000; have := hi.mv.2; omega⟩
  have fin_ : ∀ (n : Nat) (hn : n < l.length) (u : Bool), pickA s l = (l[n], !u) → ({ dn s with up := u, mv := (dn s).mv + wayI (dn s).pos (cv l[n]).f0 (dn s).per, pos := (cv l[n]).f0 } : Sc) = dn (goA s (pickA s l)) ∧ ((l.map cv).eraseIdx n).map olderD = (dropA l (pickA s l).1.f0).map cv := fun n hn u e => by
    rw [e]
    refine ⟨?_, ?_⟩
    · unfold dn goA
      simp only [Bool.not_not]
      rfl
    · rw [erase_cv, older_cv, drop_nd hi.nd hn]
  have gc : ∀ (n : Nat) (hn : n < l.length), (l.map cv)[n]'(by rw [List.length_map]; exact hn) = cv l[n] := fun n hn => by rw [List.getElem_map]
  rcases oldix_range l with hm | ⟨h1, h2⟩
  · obtain ⟨n, hn, e1, e2⟩ := ch_cv (s := s) h0 (fun x hx => (hi.bl x hx).1)
    have ep := pick_cho (s := s) hm
    rw [getD77 _ _ hn] at e1
    have := NextD_ch g P (dn s) (l.map cv) w0 w hB h hlen h0' hi.pos hi.per hall hage hmv (cv l[n]) (!(choA s l).2) n (by rw [List.length_map]; exact hn) (gc n hn) (by rw [six_cv]; exact hm) e2
    obtain ⟨f1, f2⟩ := fin_ n hn (!(choA s l).2) (by rw [ep, e1, Bool.not_not])
    rw [f1, f2] at this
    rw [show (pickA s l).1.f0 = (cv l[n]).f0 by rw [ep, ← e1]; rfl] at this ⊢
    exact this
  · obtain ⟨n, hn2⟩ := Int.eq_ofNat_of_zero_le h1
    have hn : n < l.length := by omega
    have ep := pick_old (s := s) hn2
    rw [getD77 _ _ hn] at ep
    by_cases hs : l[n].f0 = s.pos
    · rw [if_pos hs] at ep
      have := NextD_same g P (dn s) (l.map cv) w0 w hB h hlen h0' hi.pos hi.per hall hage hmv (cv l[n]) (!s.up) n (by rw [List.length_map]; exact hn) (gc n hn) (by rw [six_cv]; exact hn2) hs rfl
      obtain ⟨f1, f2⟩ := fin_ n hn (!s.up) (by rw [ep, Bool.not_not])
      rw [f1, f2] at this
      rw [show (pickA s l).1.f0 = (cv l[n]).f0 by rw [ep]; rfl] at this ⊢
      exact this
    · rw [if_neg hs] at ep
      have hd : decide ((cv l[n]).f0 < (dn s).pos) = !(decide (s.pos < l[n].f0)) := by
        show decide (l[n].f0 < s.pos) = _
        by_cases h : s.pos < l[n].f0
        · rw [decide_eq_true h, decide_eq_false (by omega)]; rfl
        · rw [decide_eq_false h, decide_eq_true (by omega)]; rfl
      have := NextD_diff g P (dn s) (l.map cv) w0 w hB h hlen h0' hi.pos hi.per hall hage hmv (cv l[n]) (!(decide (s.pos < l[n].f0))) n (by rw [List.length_map]; exact hn) (gc n hn) (by rw [six_cv]; exact hn2) hs hd.symm
      obtain ⟨f1, f2⟩ := fin_ n hn (!(decide (s.pos < l[n].f0))) (by rw [ep, Bool.not_not])
      rw [f1, f2] at this
      rw [show (pickA s l).1.f0 = (cv l[n]).f0 by rw [ep]; rfl] at this ⊢
      exact this
end Go.Proofs.Ytfbjeiloefocgaa.CC
/-! A deed on both arms. -/
namespace Go.Proofs.Ytfbjeiloefocgaa.CC
open Go.RowKit Go.Proofs.Ytfbjeiloefocgaa.Fl Go.Proofs.Ytfbjeiloefocgaa.PL Go.Proofs.Ytfbjeiloefocgaa.PG Go.Proofs.YtfbjeiloefocgaaW.PrintWords Go.Proofs.YtfbjeiloefocgaaW.PrintLast Go.Proofs.YtfbjeiloefocgaaW.PrintMore
attribute [local go_sem] Oper.semAt_some

/-- Both arms, one list, apart. -/
structure Two (B : Nat) (Pc Pr : Nat → Prop) (w : World) (gc gr : Nat) (s : Sc) (L : List S77) : Prop where
  ac : AS B Pc w gc s L
  ar : DS B Pr w gr (dn s) (L.map cv)
  ap : ∀ k, Pc k → ¬ Pr k
theorem Two.below {B : Nat} {Pc Pr : Nat → Prop} {w w' : World} {gc gr : Nat} {s : Sc} {L : List S77} (h : Two B Pc Pr w gc gr s L) (hb : Below w.heap.size w w') : Two B Pc Pr w' gc gr s L := ⟨h.ac.below hb, h.ar.below hb, h.ap⟩
theorem Two.bound {B : Nat} {Pc Pr : Nat → Prop} {w : World} {gc gr : Nat} {s : Sc} {L : List S77} (h : Two B Pc Pr w gc gr s L) : Two B (fun k => Pc k ∧ k < w.heap.size) (fun k => Pr k ∧ k < w.heap.size) w gc gr s L := ⟨h.ac.bound, h.ar.bound, fun k h1 h2 => h.ap k h1.1 h2.1⟩
/-- What a deed leaves. -/
def Done (Pc Pr : Nat → Prop) (w0 w w' : World) (gc gr : Nat) (st : Sc × List S77) : Prop :=
  (∃ Pc' Pr', Two w0.heap.size Pc' Pr' w' gc gr st.1 st.2 ∧ (∀ k, Pc' k → Pc k ∨ w.heap.size ≤ k) ∧ (∀ k, Pr' k → Pr k ∨ w.heap.size ≤ k)) ∧ Below w0.heap.size w0 w' ∧ Kept w w' (fun k => Pc k ∨ Pr k)
/-- A call on the arm, and one on the other, one behind the other, from w5 on (w5 is w and new blocks). -/
theorem both {Pc Pr : Nat → Prop} {w0 w w5 w6 w7 : World} {gc gr : Nat} {s : Sc} {L : List S77} {st : Sc × List S77} (h : Two w0.heap.size Pc Pr w gc gr s L) (hb : Below w.heap.size w w5)
    (hc : AS w0.heap.size (fun k => (Pc k ∧ k < w.heap.size) ∨ w5.heap.size ≤ k) w6 gc st.1 st.2) (hk6 : Kept w5 w6 (fun k => Pc k ∧ k < w.heap.size))
    (hr : DS w0.heap.size (fun k => (Pr k ∧ k < w.heap.size) ∨ w6.heap.size ≤ k) w7 gr (dn st.1) (st.2.map cv)) (hb7 : Below w0.heap.size w0 w7) (hk7 : Kept w6 w7 (fun k => Pr k ∧ k < w.heap.size)) : Done Pc Pr w0 w w7 gc gr st := by
  refine ⟨⟨_, _, ⟨hc.kept hk7 (fun k h1 h2 => ?_), hr, fun k h1 h2 => ?_⟩, fun k h1 => ?_, fun k h1 => ?_⟩, hb7, ?_, fun k hk hS => ?_⟩
  · rcases h1 with h1 | h1
    · exact h.ap k h1.1 h2.1
    · have := hb.size; have := h2.2; omega
  · rcases h1.1 with h3 | h3
    · rcases h2 with h2 | h2
      · exact h.ap k h3.1 h2.1
      · have := h1.2; omega
    · rcases h2 with h2 | h2
      · have := hb.size; have := h2.2; omega
      · have := h1.2; omega
  · rcases h1.1 with h1 | h1
    · exact .inl h1.1
    · exact .inr (Nat.le_trans hb.size h1)
  · rcases h1 with h1 | h1
    · exact .inl h1.1
    · exact .inr (Nat.le_trans (Nat.le_trans hb.size hk6.1) h1)
  · exact Nat.le_trans (Nat.le_trans hb.size hk6.1) hk7.1
  · have k5 : k < w5.heap.size := Nat.lt_of_lt_of_le hk hb.size
    exact (hk7.2 k (Nat.lt_of_lt_of_le k5 hk6.1) (fun e => hS (.inr e.1))).trans ((hk6.2 k k5 (fun e => hS (.inl e.1))).trans (hb.block k hk))
/-- The other arm behind a call on the one. -/
theorem other {Pc Pr : Nat → Prop} {w0 w w5 w6 : World} {gc gr : Nat} {s : Sc} {L : List S77} (h : Two w0.heap.size Pc Pr w gc gr s L) (hb : Below w.heap.size w w5) (hk6 : Kept w5 w6 (fun k => Pc k ∧ k < w.heap.size)) : DS w0.heap.size (fun k => Pr k ∧ k < w.heap.size) w6 gr (dn s) (L.map cv) :=
  (((h.ar.bound).below hb).kept hk6 (fun k h1 h2 => h.ap k h2.1 h1.1)).mono (fun _k hk => hk.1)
theorem box_kept {Pc : Nat → Prop} {w w5 w6 : World} {gx : Nat} {cs : Array Value} (hx : w5.heap[gx]? = some (.cells cs 58 (0, 0))) (hg : w.heap.size ≤ gx) (hk6 : Kept w5 w6 (fun k => Pc k ∧ k < w.heap.size)) : w6.heap[gx]? = some (.cells cs 58 (0, 0)) := (hk6.2 gx (blk_lt hx) (fun e => by have := e.2; omega)).trans hx
/-- What Next answers, and leaves. -/
def outN (s : Sc) (l : List S77) : Int × Bool := if l.length = 0 then (0, false) else ((pickA s l).1.f0, true)
def stN (s : Sc) (l : List S77) : Sc × List S77 := if l.length = 0 then (s, l) else nextA (s, l)
theorem inv_stN {k : Nat} {s : Sc} {l : List S77} (h : Inv k s l) : Inv (k + 1) (stN s l).1 (stN s l).2 := by
  unfold stN
  by_cases h0 : l.length = 0
  · rw [if_pos h0]; exact h.more (by omega)
  · rw [if_neg h0]; exact inv_next h (Nat.pos_of_ne_zero h0)
section
variable {k : Nat} (g : Nat) (P : Nat → Prop) (s : Sc) (L : List S77) (b : Int) (w0 w : World)
theorem Ask_A (hB : Below w0.heap.size w0 w) (h : AS w0.heap.size P w g s L) (hi : Inv k s L) : Calls Try.prog 21 #[.pointer (some ⟨g, 0, none⟩), .int .i64 b] w fun e w' => e = .returned (.int .i64 (askA L b).1) ∧ AS w0.heap.size (fun k => P k ∨ w.heap.size ≤ k) w' g s (askA L b).2 ∧ Below w0.heap.size w0 w' ∧ Kept w w' P := Ask_calls g P s L b w0 w hB h hi.lt
theorem Ask_D (hB : Below w0.heap.size w0 w) (h : DS w0.heap.size P w g (dn s) (L.map cv)) (hi : Inv k s L) : Calls Try.prog 34 #[.pointer (some ⟨g, 0, none⟩), .int .i64 b] w fun e w' => e = .returned (.int .i64 (askA L b).1) ∧ DS w0.heap.size (fun k => P k ∨ w.heap.size ≤ k) w' g (dn s) ((askA L b).2.map cv) ∧ Below w0.heap.size w0 w' ∧ Kept w w' P := by
  have := AskD_calls g P (dn s) (L.map cv) b w0 w hB h (by rw [List.length_map]; exact hi.lt)
  rw [ask_cv L b hi.len] at this
  exact this
theorem Cancel_A (hB : Below w0.heap.size w0 w) (h : AS w0.heap.size P w g s L) (hi : Inv k s L) : Calls Try.prog 27 #[.pointer (some ⟨g, 0, none⟩), .int .i64 b] w fun e w' => e = .returned (.int .i64 (cancelA L b).1) ∧ AS w0.heap.size (fun k => P k ∨ w.heap.size ≤ k) w' g s (cancelA L b).2 ∧ Below w0.heap.size w0 w' ∧ Kept w w' P := (Cancel_calls g P s L b w0 w hB h hi.lt).mono fun _e _w' h => ⟨h.1, h.2.1.mono (fun _ hk => .inl hk), h.2.2⟩
theorem Cancel_D (hB : Below w0.heap.size w0 w) (h : DS w0.heap.size P w g (dn s) (L.map cv)) (hi : Inv k s L) : Calls Try.prog 51 #[.pointer (some ⟨g, 0, none⟩), .int .i64 b] w fun e w' => e = .returned (.int .i64 (cancelA L b).1) ∧ DS w0.heap.size (fun k => P k ∨ w.heap.size ≤ k) w' g (dn s) ((cancelA L b).2.map cv) ∧ Below w0.heap.size w0 w' ∧ Kept w w' P := by
  have := CancelD_calls g P (dn s) (L.map cv) b w0 w hB h (by rw [List.length_map]; exact hi.lt)
  rw [cancel_cv L b] at this
  exact this
theorem Set_A (hB : Below w0.heap.size w0 w) (h : AS w0.heap.size P w g s L) : Calls Try.prog 28 #[.pointer (some ⟨g, 0, none⟩), .int .u8 b] w fun e w' => e = .returned (.int .i64 (setA s b).1) ∧ AS w0.heap.size (fun k => P k ∨ w.heap.size ≤ k) w' g (setA s b).2 L ∧ Below w0.heap.size w0 w' ∧ Kept w w' P := (Set_calls g P s L b w0 w hB h).mono fun _e _w' h => ⟨h.1, h.2.1.mono (fun _ hk => .inl hk), h.2.2⟩
theorem Set_D (hB : Below w0.heap.size w0 w) (h : DS w0.heap.size P w g (dn s) (L.map cv)) : Calls Try.prog 52 #[.pointer (some ⟨g, 0, none⟩), .int .u8 b] w fun e w' => e = .returned (.int .i64 (setA s b).1) ∧ DS w0.heap.size (fun k => P k ∨ w.heap.size ≤ k) w' g (dn (setA s b).2) (L.map cv) ∧ Below w0.heap.size w0 w' ∧ Kept w w' P := (SetD_calls g P (dn s) (L.map cv) b w0 w hB h).mono fun e w' h => by
  have e1 : (setA (dn s) b).1 = (setA s b).1 ∧ (setA (dn s) b).2 = dn (setA s b).2 := by unfold setA; split <;> exact ⟨rfl, rfl⟩
  rw [e1.1, e1.2] at h
  exact ⟨h.1, h.2.1.mono (fun _ hk => .inl hk), h.2.2⟩
theorem Next_A (hB : Below w0.heap.size w0 w) (h : AS w0.heap.size P w g s L) (hi : Inv k s L) (hk : k < 900000) (hP : ∀ k, P k → k < w.heap.size) : Calls Try.prog 20 #[.pointer (some ⟨g, 0, none⟩)] w fun e w' => e = .returned (.tuple #[.int .i64 (outN s L).1, .bool (outN s L).2]) ∧ AS w0.heap.size (fun k => P k ∨ w.heap.size ≤ k) w' g (stN s L).1 (stN s L).2 ∧ Below w0.heap.size w0 w' ∧ Kept w w' P := by
  unfold outN stN
  by_cases h0 : L.length = 0
  · rw [if_pos h0, if_pos h0]
    have hl := List.length_eq_zero_iff.1 h0
    subst hl
    refine (Next_none h).mono ?_
    rintro e w' ⟨he, rfl⟩
    exact ⟨he, h.mono (fun _ hk => .inl hk), hB, Nat.le_refl _, fun _ _ _ => rfl⟩
  · rw [if_neg h0, if_neg h0]
    exact (Next_calls g P s L w0 w hB h hi.lt (by omega) hP hi.pos hi.per hi.bl (fun x hx => ⟨by have := (hi.age x hx).2; omega, (hi.age x hx).1⟩) ⟨hi.mv.1, by have := hi.mv.2; omega⟩).mono fun e w' h => ⟨h.1, h.2.1.mono (fun _ hk => .inl hk), h.2.2⟩
theorem Next_D (hB : Below w0.heap.size w0 w) (h : DS w0.heap.size P w g (dn s) (L.map cv)) (hi : Inv k s L) (hk : k < 900000) : Calls Try.prog 35 #[.pointer (some ⟨g, 0, none⟩)] w fun e w' => e = .returned (.tuple #[.int .i64 (outN s L).1, .bool (outN s L).2]) ∧ DS w0.heap.size (fun k => P k ∨ w.heap.size ≤ k) w' g (dn (stN s L).1) ((stN s L).2.map cv) ∧ Below w0.heap.size w0 w' ∧ Kept w w' P := by
  unfold outN stN
  by_cases h0 : L.length = 0
  · rw [if_pos h0, if_pos h0]
    have hl := List.length_eq_zero_iff.1 h0
    subst hl
    refine (NextD_none h).mono ?_
    rintro e w' ⟨he, rfl⟩
    exact ⟨he, h.mono (fun _ hk => .inl hk), hB, Nat.le_refl _, fun _ _ _ => rfl⟩
  · rw [if_neg h0, if_neg h0]
    exact NextD_calls g P s L w0 w hB h hi hk (by omega)
end
set_option maxHeartbeats 2000000 in
set_option maxRecDepth 100000 in
theorem do_next {k : Nat} (Pc Pr : Nat → Prop) (gc gr : Nat) (s : Sc) (L : List S77) (b q : Int) (w0 w : World) (hB : Below w0.heap.size w0 w) (hT : Two w0.heap.size Pc Pr w gc gr s L) (hi : Inv k s L) (hk : k < 900000) : Calls Try.prog 26 #[.pointer (some ⟨gc, 0, none⟩), .pointer (some ⟨gr, 0, none⟩), .agg #[.int .i64 2, .int .i64 b, .int .u8 q]] w fun e w' => e = .returned (.bool true) ∧ Done Pc Pr w0 w w' gc gr (stN s L) := by
  have HB := Aside0.mk hB
  have HT := Aside0.mk hT
  clear hB hT
  have h6 : ∀ w5, Below w.heap.size w w5 → Calls Try.prog 20 #[.pointer (some ⟨gc, 0, none⟩)] w5 fun e w' => e = .returned (.tuple #[.int .i64 (outN s L).1, .bool (outN s L).2]) ∧ Aside0 (AS w0.heap.size (fun k => (Pc k ∧ k < w.heap.size) ∨ w5.heap.size ≤ k) w' gc (stN s L).1 (stN s L).2 ∧ Below w0.heap.size w0 w' ∧ Kept w5 w' (fun k => Pc k ∧ k < w.heap.size)) := fun w5 hb =>
    (Next_A gc _ s L w0 w5 (below_then HB.out HB.out.size hb) ((HT.out.ac.bound).below hb) hi hk (fun k hk => Nat.lt_of_lt_of_le hk.2 hb.size)).mono fun e w' h => ⟨h.1, ⟨h.2⟩⟩
  have h7 : ∀ w5 w6, Below w.heap.size w w5 → Aside0 (AS w0.heap.size (fun k => (Pc k ∧ k < w.heap.size) ∨ w5.heap.size ≤ k) w6 gc (stN s L).1 (stN s L).2 ∧ Below w0.heap.size w0 w6 ∧ Kept w5 w6 (fun k => Pc k ∧ k < w.heap.size)) → Calls Try.prog 35 #[.pointer (some ⟨gr, 0, none⟩)] w6 fun e w' => e = .returned (.tuple #[.int .i64 (outN s L).1, .bool (outN s L).2]) ∧ Aside0 (Done Pc Pr w0 w w' gc gr (stN s L)) := fun w5 w6 hb ha =>
    (Next_D gr _ s L w0 w6 ha.out.2.1 (other HT.out hb ha.out.2.2) hi hk).mono fun e w' h => ⟨h.1, ⟨both (st := (stN s L)) HT.out hb ha.out.1 ha.out.2.2 h.2.1 h.2.2.1 h.2.2.2⟩⟩
  generalize (outN s L).1 = r1 at *
  generalize (outN s L).2 = r2 at *
  go_enter Try.func26, Try.ntmps26
  go_wp2_with (first | ((with_reducible refine gate_dst (N := 5) rfl ?_); refine box_event ?hg (N := 5) ?hd (cs := #[.int .i64 2, .int .i64 b, .int .u8 q]) (t := 58) ?hr ?_; (case hd => rfl); (case hg => rfl); (case hr => first | (go_simp; done) | (go_simp; rfl)); intro gx hgx w5 hbox hb; have x0 : w5.cell? ⟨gx, 0, none⟩ = some (.int .i64 2) := (blk_cell hbox 0).trans rfl; have x1 : w5.cell? ⟨gx, 1, none⟩ = some (.int .i64 b) := (blk_cell hbox 1).trans rfl; have x2 : w5.cell? ⟨gx, 2, none⟩ = some (.int .u8 q) := (blk_cell hbox 2).trans rfl; have HX5 := Aside0.mk hbox; have HI5 := Aside0.mk hgx; have HB5 := Aside0.mk hb; clear hb hbox hgx) | (go_at_call 20; with_reducible refine (h6 _ HB5.out).mono ?_; rintro e w6 ⟨rfl, ha⟩) | (go_at_call 35; with_reducible refine (h7 _ _ HB5.out ha).mono ?_; rintro e w7 ⟨rfl, hd⟩))
  go_ret
  exact ⟨rfl, hd.out⟩
def do3_T3 : Bool × List (List Nat × List Nat) := (true, [([], []), ([], []), ([1], [1]), ([0, 2], [0, 2]), ([], []), ([], []), ([5], [5]), ([4, 6, 3], [4, 6]), ([3, 7], [3, 7]), ([8, 7, 0, 1, 2, 3, 4, 5, 6, 7, 8], [8])])
def do3_B3 : List Nat := [0, 0, 2, 7, 0, 0, 32, 127, 255, 511]
theorem do3_tab3 : rtab .any (opsOf Try.f26 3) = do3_T3 := by kernel_rfl
theorem do3_bits3 : waitsOk do3_T3.2 do3_B3 = true := by kernel_rfl
set_option maxHeartbeats 2000000 in
set_option maxRecDepth 100000 in
theorem do_ask {k : Nat} (Pc Pr : Nat → Prop) (gc gr : Nat) (s : Sc) (L : List S77) (b q : Int) (w0 w : World) (hB : Below w0.heap.size w0 w) (hT : Two w0.heap.size Pc Pr w gc gr s L) (hi : Inv k s L) (_hk : k < 900000) : Calls Try.prog 26 #[.pointer (some ⟨gc, 0, none⟩), .pointer (some ⟨gr, 0, none⟩), .agg #[.int .i64 0, .int .i64 b, .int .u8 q]] w fun e w' => e = .returned (.bool true) ∧ Done Pc Pr w0 w w' gc gr (s, (askA L b).2) := by
  have HB := Aside0.mk hB
  have HT := Aside0.mk hT
  clear hB hT
  have h6 : ∀ w5, Below w.heap.size w w5 → Calls Try.prog 21 #[.pointer (some ⟨gc, 0, none⟩), .int .i64 b] w5 fun e w' => e = .returned (.int .i64 (askA L b).1) ∧ Aside0 (AS w0.heap.size (fun k => (Pc k ∧ k < w.heap.size) ∨ w5.heap.size ≤ k) w' gc (s, (askA L b).2).1 (s, (askA L b).2).2 ∧ Below w0.heap.size w0 w' ∧ Kept w5 w' (fun k => Pc k ∧ k < w.heap.size)) := fun w5 hb =>
    (Ask_A gc _ s L b w0 w5 (below_then HB.out HB.out.size hb) ((HT.out.ac.bound).below hb) hi).mono fun e w' h => ⟨h.1, ⟨h.2⟩⟩
  have h7 : ∀ w5 w6, Below w.heap.size w w5 → Aside0 (AS w0.heap.size (fun k => (Pc k ∧ k < w.heap.size) ∨ w5.heap.size ≤ k) w6 gc (s, (askA L b).2).1 (s, (askA L b).2).2 ∧ Below w0.heap.size w0 w6 ∧ Kept w5 w6 (fun k => Pc k ∧ k < w.heap.size)) → Calls Try.prog 34 #[.pointer (some ⟨gr, 0, none⟩), .int .i64 b] w6 fun e w' => e = .returned (.int .i64 (askA L b).1) ∧ Aside0 (Done Pc Pr w0 w w' gc gr (s, (askA L b).2)) := fun w5 w6 hb ha =>
    (Ask_D gr _ s L b w0 w6 ha.out.2.1 (other HT.out hb ha.out.2.2) hi).mono fun e w' h => ⟨h.1, ⟨both (st := (s, (askA L b).2)) HT.out hb ha.out.1 ha.out.2.2 h.2.1 h.2.2.1 h.2.2.2⟩⟩
  have hx : ∀ w5 w6 gx, w.heap.size = gx → w5.heap[gx]? = some (.cells #[.int .i64 (0 : Int), .int .i64 b, .int .u8 q] 58 (0, 0)) → Kept w5 w6 (fun k => Pc k ∧ k < w.heap.size) → w6.cell? ⟨gx, 1, none⟩ = some (.int .i64 b) := fun w5 w6 gx hg hx hk => (blk_cell (box_kept hx (Nat.le_of_eq hg) hk) 1).trans rfl
  generalize (askA L b).1 = r1 at *
  go_enter Try.func26, Try.ntmps26
  go_upto_region 3 with (first | ((with_reducible refine gate_dst (N := 5) rfl ?_); refine box_event ?hg (N := 5) ?hd (cs := #[.int .i64 0, .int .i64 b, .int .u8 q]) (t := 58) ?hr ?_; (case hd => rfl); (case hg => rfl); (case hr => first | (go_simp; done) | (go_simp; rfl)); intro gx hgx w5 hbox hb; have x0 : w5.cell? ⟨gx, 0, none⟩ = some (.int .i64 0) := (blk_cell hbox 0).trans rfl; have x1 : w5.cell? ⟨gx, 1, none⟩ = some (.int .i64 b) := (blk_cell hbox 1).trans rfl; have x2 : w5.cell? ⟨gx, 2, none⟩ = some (.int .u8 q) := (blk_cell hbox 2).trans rfl; have HX5 := Aside0.mk hbox; have HI5 := Aside0.mk hgx; have HB5 := Aside0.mk hb; clear hb hbox hgx))
  refine start_ (n := 10) (S := fun w' => w'.cell? ⟨gx, 1, none⟩ = some (.int .i64 b)) (ds := [7]) #[false, false, false, false, false, false, false, false, false, false] (by kernel_rfl) rfl rfl x1 (fun hHeld => ?_); refine with_tabW do3_tab3 do3_bits3 (fun HT_ HW_ => ?_)
  refine pure_ (i := 0) (N := some 15) (v := ?_) (a' := ?_) #[true, false, false, false, false, false, false, false, false, false] rfl rfl (any_of HT_.out (by kernel_rfl)) (fun _ _ _ h => h) (Or.inl ⟨by rfl, ?_⟩) ?_ ?_
  rotate_left
  · intro w'
    go_simp
    with_reducible rfl
  rotate_left
  · simp only [Act.put, List.setIfInBounds_toArray, List.set_cons_zero, List.set_cons_succ]
    rfl
  refine pure_ (i := 1) (N := some 16) (v := ?_) (a' := ?_) #[true, true, false, false, false, false, false, false, false, false] rfl rfl (any_of HT_.out (by kernel_rfl)) (fun _ _ _ h => h) (Or.inl ⟨by rfl, ?_⟩) ?_ ?_
  rotate_left
  · intro w'
    go_simp
    with_reducible rfl
  rotate_left
  · simp only [Act.put, List.setIfInBounds_toArray, List.set_cons_zero, List.set_cons_succ]
    rfl
  refine take_ (i := 2) (N := some 17) (v := ?_) (a' := ?_) #[true, true, true, false, false, false, false, false, false, false] rfl rfl (take_ofW HT_.out HW_.out (by kernel_rfl)) (fun _ _ _ h => h) (Or.inl ⟨by rfl, ?_⟩) hHeld ?_ ?_
  rotate_left
  · rintro w' s0
    go_simp
    with_reducible rfl
  rotate_left
  · simp only [Act.put, List.setIfInBounds_toArray, List.set_cons_zero, List.set_cons_succ]
    rfl
  refine pure_ (i := 4) (N := some 19) (v := ?_) (a' := ?_) #[true, true, true, false, true, false, false, false, false, false] rfl rfl (any_of HT_.out (by kernel_rfl)) (fun _ _ _ h => h) (Or.inl ⟨by rfl, ?_⟩) ?_ ?_
  rotate_left
  · intro w'
    go_simp
    with_reducible rfl
  rotate_left
  · simp only [Act.put, List.setIfInBounds_toArray, List.set_cons_zero, List.set_cons_succ]
    rfl
  refine pure_ (i := 5) (N := some 20) (v := ?_) (a' := ?_) #[true, true, true, false, true, true, false, false, false, false] rfl rfl (any_of HT_.out (by kernel_rfl)) (fun _ _ _ h => h) (Or.inl ⟨by rfl, ?_⟩) ?_ ?_
  rotate_left
  · intro w'
    go_simp
    with_reducible rfl
  rotate_left
  · simp only [Act.put, List.setIfInBounds_toArray, List.set_cons_zero, List.set_cons_succ]
    rfl
  refine take_ (i := 6) (N := some 21) (v := ?_) (a' := ?_) #[true, true, true, false, true, true, true, false, false, false] rfl rfl (take_ofW HT_.out HW_.out (by kernel_rfl)) (fun _ _ _ h => h) (Or.inl ⟨by rfl, ?_⟩) hHeld ?_ ?_
  rotate_left
  · rintro w' s0
    go_simp
    with_reducible rfl
  rotate_left
  · simp only [Act.put, List.setIfInBounds_toArray, List.set_cons_zero, List.set_cons_succ]
    rfl
  refine one_ (i := 3) (N := some 18) #[true, true, true, true, true, true, true, false, false, false] rfl rfl (one_of HT_.out (by kernel_rfl)) (by decide) (fun K hK => ?_)
  refine goes_ Try.func21 (by kernel_rfl) rfl #[.pointer (some ⟨gc, 0, none⟩), .int .i64 b] (by rfl) rfl rfl (by (try simp only [List.map_toArray, List.map_cons, List.map_nil]); rfl) ?_
  with_reducible refine (h6 _ (below_drew HB5.out)).mono ?_
  rintro e w6 ⟨rfl, ha⟩
  refine ⟨_, rfl, ?_⟩
  have hx6 := hx _ _ _ HI5.out.symm (blk_drew HX5.out) ha.out.2.2
  clear hHeld
  refine hK.out _ _ hx6 (fun hHeld => ?_)
  clear hK K
  refine norm_ (a' := ?_) ?_ ?_
  rotate_left
  · show Act.put _ (some 18) _ = _
    simp only [Act.put, List.setIfInBounds_toArray, List.set_cons_zero, List.set_cons_succ]
    rfl
  refine last_ (i := 7) (N := some 22) #[true, true, true, true, true, true, true, true, false, false] rfl rfl (one_of HT_.out (by kernel_rfl)) (by decide) (fun K hK => ?_)
  refine goes_ Try.func34 (by kernel_rfl) rfl #[.pointer (some ⟨gr, 0, none⟩), .int .i64 b] (by rfl) rfl rfl (by (try simp only [List.map_toArray, List.map_cons, List.map_nil]); rfl) ?_
  with_reducible refine (h7 _ _ (below_drew HB5.out) ha).mono ?_
  rintro e w7 ⟨rfl, hd⟩
  refine ⟨_, rfl, ?_⟩
  clear hHeld
  refine hK.out _ _ ?_
  clear hK K
  refine norm_ (a' := ?_) ?_ ?_
  rotate_left
  · show Act.put _ (some 22) _ = _
    simp only [Act.put, List.setIfInBounds_toArray, List.set_cons_zero, List.set_cons_succ]
    rfl
  refine pure_ (i := 8) (N := some 23) (v := ?_) (a' := ?_) #[true, true, true, true, true, true, true, true, true, false] rfl rfl (any_of HT_.out (by kernel_rfl)) (fun _ _ _ h => h) (Or.inl ⟨by rfl, ?_⟩) ?_ ?_
  rotate_left
  · intro w'
    go_simp
    with_reducible rfl
  rotate_left
  · simp only [Act.put, List.setIfInBounds_toArray, List.set_cons_zero, List.set_cons_succ]
    rfl
  refine pure_ (i := 9) (N := some 6) (v := ?_) (a' := ?_) #[true, true, true, true, true, true, true, true, true, true] rfl rfl (any_of HT_.out (by kernel_rfl)) (fun _ _ _ h => h) (Or.inl ⟨by rfl, ?_⟩) ?_ ?_
  rotate_left
  · intro w'
    go_simp
    with_reducible rfl
  rotate_left
  · simp only [Act.put, List.setIfInBounds_toArray, List.set_cons_zero, List.set_cons_succ]
    rfl
  refine done_ (done_of HT_.out (by kernel_rfl)) ?_
  go_wp2
  go_ret
  exact ⟨rfl, hd.out⟩
def do5_T5 : Bool × List (List Nat × List Nat) := (true, [([], []), ([], []), ([1], [1]), ([0, 2], [0, 2]), ([], []), ([], []), ([5], [5]), ([4, 6, 3], [4, 6]), ([3, 7], [3, 7]), ([8, 7, 0, 1, 2, 3, 4, 5, 6, 7, 8], [8])])
def do5_B5 : List Nat := [0, 0, 2, 7, 0, 0, 32, 127, 255, 511]
theorem do5_tab5 : rtab .any (opsOf Try.f26 5) = do5_T5 := by kernel_rfl
theorem do5_bits5 : waitsOk do5_T5.2 do5_B5 = true := by kernel_rfl
set_option maxHeartbeats 2000000 in
set_option maxRecDepth 100000 in
theorem do_cancel {k : Nat} (Pc Pr : Nat → Prop) (gc gr : Nat) (s : Sc) (L : List S77) (b q : Int) (w0 w : World) (hB : Below w0.heap.size w0 w) (hT : Two w0.heap.size Pc Pr w gc gr s L) (hi : Inv k s L) (_hk : k < 900000) : Calls Try.prog 26 #[.pointer (some ⟨gc, 0, none⟩), .pointer (some ⟨gr, 0, none⟩), .agg #[.int .i64 1, .int .i64 b, .int .u8 q]] w fun e w' => e = .returned (.bool true) ∧ Done Pc Pr w0 w w' gc gr (s, (cancelA L b).2) := by
  have HB := Aside0.mk hB
  have HT := Aside0.mk hT
  clear hB hT
  have h6 : ∀ w5, Below w.heap.size w w5 → Calls Try.prog 27 #[.pointer (some ⟨gc, 0, none⟩), .int .i64 b] w5 fun e w' => e = .returned (.int .i64 (cancelA L b).1) ∧ Aside0 (AS w0.heap.size (fun k => (Pc k ∧ k < w.heap.size) ∨ w5.heap.size ≤ k) w' gc (s, (cancelA L b).2).1 (s, (cancelA L b).2).2 ∧ Below w0.heap.size w0 w' ∧ Kept w5 w' (fun k => Pc k ∧ k < w.heap.size)) := fun w5 hb =>
    (Cancel_A gc _ s L b w0 w5 (below_then HB.out HB.out.size hb) ((HT.out.ac.bound).below hb) hi).mono fun e w' h => ⟨h.1, ⟨h.2⟩⟩
  have h7 : ∀ w5 w6, Below w.heap.size w w5 → Aside0 (AS w0.heap.size (fun k => (Pc k ∧ k < w.heap.size) ∨ w5.heap.size ≤ k) w6 gc (s, (cancelA L b).2).1 (s, (cancelA L b).2).2 ∧ Below w0.heap.size w0 w6 ∧ Kept w5 w6 (fun k => Pc k ∧ k < w.heap.size)) → Calls Try.prog 51 #[.pointer (some ⟨gr, 0, none⟩), .int .i64 b] w6 fun e w' => e = .returned (.int .i64 (cancelA L b).1) ∧ Aside0 (Done Pc Pr w0 w w' gc gr (s, (cancelA L b).2)) := fun w5 w6 hb ha =>
    (Cancel_D gr _ s L b w0 w6 ha.out.2.1 (other HT.out hb ha.out.2.2) hi).mono fun e w' h => ⟨h.1, ⟨both (st := (s, (cancelA L b).2)) HT.out hb ha.out.1 ha.out.2.2 h.2.1 h.2.2.1 h.2.2.2⟩⟩
  have hx : ∀ w5 w6 gx, w.heap.size = gx → w5.heap[gx]? = some (.cells #[.int .i64 (1 : Int), .int .i64 b, .int .u8 q] 58 (0, 0)) → Kept w5 w6 (fun k => Pc k ∧ k < w.heap.size) → w6.cell? ⟨gx, 1, none⟩ = some (.int .i64 b) := fun w5 w6 gx hg hx hk => (blk_cell (box_kept hx (Nat.le_of_eq hg) hk) 1).trans rfl
  generalize (cancelA L b).1 = r1 at *
  go_enter Try.func26, Try.ntmps26
  go_upto_region 5 with (first | ((with_reducible refine gate_dst (N := 5) rfl ?_); refine box_event ?hg (N := 5) ?hd (cs := #[.int .i64 1, .int .i64 b, .int .u8 q]) (t := 58) ?hr ?_; (case hd => rfl); (case hg => rfl); (case hr => first | (go_simp; done) | (go_simp; rfl)); intro gx hgx w5 hbox hb; have x0 : w5.cell? ⟨gx, 0, none⟩ = some (.int .i64 1) := (blk_cell hbox 0).trans rfl; have x1 : w5.cell? ⟨gx, 1, none⟩ = some (.int .i64 b) := (blk_cell hbox 1).trans rfl; have x2 : w5.cell? ⟨gx, 2, none⟩ = some (.int .u8 q) := (blk_cell hbox 2).trans rfl; have HX5 := Aside0.mk hbox; have HI5 := Aside0.mk hgx; have HB5 := Aside0.mk hb; clear hb hbox hgx))
  refine start_ (n := 10) (S := fun w' => w'.cell? ⟨gx, 1, none⟩ = some (.int .i64 b)) (ds := [7]) #[false, false, false, false, false, false, false, false, false, false] (by kernel_rfl) rfl rfl x1 (fun hHeld => ?_); refine with_tabW do5_tab5 do5_bits5 (fun HT_ HW_ => ?_)
  refine pure_ (i := 0) (N := some 26) (v := ?_) (a' := ?_) #[true, false, false, false, false, false, false, false, false, false] rfl rfl (any_of HT_.out (by kernel_rfl)) (fun _ _ _ h => h) (Or.inl ⟨by rfl, ?_⟩) ?_ ?_
  rotate_left
  · intro w'
    go_simp
    with_reducible rfl
  rotate_left
  · simp only [Act.put, List.setIfInBounds_toArray, List.set_cons_zero, List.set_cons_succ]
    rfl
  refine pure_ (i := 1) (N := some 27) (v := ?_) (a' := ?_) #[true, true, false, false, false, false, false, false, false, false] rfl rfl (any_of HT_.out (by kernel_rfl)) (fun _ _ _ h => h) (Or.inl ⟨by rfl, ?_⟩) ?_ ?_
  rotate_left
  · intro w'
    go_simp
    with_reducible rfl
  rotate_left
  · simp only [Act.put, List.setIfInBounds_toArray, List.set_cons_zero, List.set_cons_succ]
    rfl
  refine take_ (i := 2) (N := some 28) (v := ?_) (a' := ?_) #[true, true, true, false, false, false, false, false, false, false] rfl rfl (take_ofW HT_.out HW_.out (by kernel_rfl)) (fun _ _ _ h => h) (Or.inl ⟨by rfl, ?_⟩) hHeld ?_ ?_
  rotate_left
  · rintro w' s0
    go_simp
    with_reducible rfl
  rotate_left
  · simp only [Act.put, List.setIfInBounds_toArray, List.set_cons_zero, List.set_cons_succ]
    rfl
  refine pure_ (i := 4) (N := some 30) (v := ?_) (a' := ?_) #[true, true, true, false, true, false, false, false, false, false] rfl rfl (any_of HT_.out (by kernel_rfl)) (fun _ _ _ h => h) (Or.inl ⟨by rfl, ?_⟩) ?_ ?_
  rotate_left
  · intro w'
    go_simp
    with_reducible rfl
  rotate_left
  · simp only [Act.put, List.setIfInBounds_toArray, List.set_cons_zero, List.set_cons_succ]
    rfl
  refine pure_ (i := 5) (N := some 31) (v := ?_) (a' := ?_) #[true, true, true, false, true, true, false, false, false, false] rfl rfl (any_of HT_.out (by kernel_rfl)) (fun _ _ _ h => h) (Or.inl ⟨by rfl, ?_⟩) ?_ ?_
  rotate_left
  · intro w'
    go_simp
    with_reducible rfl
  rotate_left
  · simp only [Act.put, List.setIfInBounds_toArray, List.set_cons_zero, List.set_cons_succ]
    rfl
  refine take_ (i := 6) (N := some 32) (v := ?_) (a' := ?_) #[true, true, true, false, true, true, true, false, false, false] rfl rfl (take_ofW HT_.out HW_.out (by kernel_rfl)) (fun _ _ _ h => h) (Or.inl ⟨by rfl, ?_⟩) hHeld ?_ ?_
  rotate_left
  · rintro w' s0
    go_simp
    with_reducible rfl
  rotate_left
  · simp only [Act.put, List.setIfInBounds_toArray, List.set_cons_zero, List.set_cons_succ]
    rfl
  refine one_ (i := 3) (N := some 29) #[true, true, true, true, true, true, true, false, false, false] rfl rfl (one_of HT_.out (by kernel_rfl)) (by decide) (fun K hK => ?_)
  refine goes_ Try.func27 (by kernel_rfl) rfl #[.pointer (some ⟨gc, 0, none⟩), .int .i64 b] (by rfl) rfl rfl (by (try simp only [List.map_toArray, List.map_cons, List.map_nil]); rfl) ?_
  with_reducible refine (h6 _ (below_drew HB5.out)).mono ?_
  rintro e w6 ⟨rfl, ha⟩
  refine ⟨_, rfl, ?_⟩
  have hx6 := hx _ _ _ HI5.out.symm (blk_drew HX5.out) ha.out.2.2
  clear hHeld
  refine hK.out _ _ hx6 (fun hHeld => ?_)
  clear hK K
  refine norm_ (a' := ?_) ?_ ?_
  rotate_left
  · show Act.put _ (some 29) _ = _
    simp only [Act.put, List.setIfInBounds_toArray, List.set_cons_zero, List.set_cons_succ]
    rfl
  refine last_ (i := 7) (N := some 33) #[true, true, true, true, true, true, true, true, false, false] rfl rfl (one_of HT_.out (by kernel_rfl)) (by decide) (fun K hK => ?_)
  refine goes_ Try.func51 (by kernel_rfl) rfl #[.pointer (some ⟨gr, 0, none⟩), .int .i64 b] (by rfl) rfl rfl (by (try simp only [List.map_toArray, List.map_cons, List.map_nil]); rfl) ?_
  with_reducible refine (h7 _ _ (below_drew HB5.out) ha).mono ?_
  rintro e w7 ⟨rfl, hd⟩
  refine ⟨_, rfl, ?_⟩
  clear hHeld
  refine hK.out _ _ ?_
  clear hK K
  refine norm_ (a' := ?_) ?_ ?_
  rotate_left
  · show Act.put _ (some 33) _ = _
    simp only [Act.put, List.setIfInBounds_toArray, List.set_cons_zero, List.set_cons_succ]
    rfl
  refine pure_ (i := 8) (N := some 34) (v := ?_) (a' := ?_) #[true, true, true, true, true, true, true, true, true, false] rfl rfl (any_of HT_.out (by kernel_rfl)) (fun _ _ _ h => h) (Or.inl ⟨by rfl, ?_⟩) ?_ ?_
  rotate_left
  · intro w'
    go_simp
    with_reducible rfl
  rotate_left
  · simp only [Act.put, List.setIfInBounds_toArray, List.set_cons_zero, List.set_cons_succ]
    rfl
  refine pure_ (i := 9) (N := some 6) (v := ?_) (a' := ?_) #[true, true, true, true, true, true, true, true, true, true] rfl rfl (any_of HT_.out (by kernel_rfl)) (fun _ _ _ h => h) (Or.inl ⟨by rfl, ?_⟩) ?_ ?_
  rotate_left
  · intro w'
    go_simp
    with_reducible rfl
  rotate_left
  · simp only [Act.put, List.setIfInBounds_toArray, List.set_cons_zero, List.set_cons_succ]
    rfl
  refine done_ (done_of HT_.out (by kernel_rfl)) ?_
  go_wp2
  go_ret
  exact ⟨rfl, hd.out⟩
def do11_T11 : Bool × List (List Nat × List Nat) := (true, [([], []), ([], []), ([1], [1]), ([0, 2], [0, 2]), ([], []), ([], []), ([5], [5]), ([4, 6, 3], [4, 6]), ([3, 7], [3, 7]), ([8, 7, 0, 1, 2, 3, 4, 5, 6, 7, 8], [8])])
def do11_B11 : List Nat := [0, 0, 2, 7, 0, 0, 32, 127, 255, 511]
theorem do11_tab11 : rtab .any (opsOf Try.f26 11) = do11_T11 := by kernel_rfl
theorem do11_bits11 : waitsOk do11_T11.2 do11_B11 = true := by kernel_rfl
set_option maxHeartbeats 2000000 in
set_option maxRecDepth 100000 in
theorem do_set {k : Nat} (Pc Pr : Nat → Prop) (gc gr : Nat) (s : Sc) (L : List S77) (b q : Int) (w0 w : World) (hB : Below w0.heap.size w0 w) (hT : Two w0.heap.size Pc Pr w gc gr s L) (_hi : Inv k s L) (_hk : k < 900000) : Calls Try.prog 26 #[.pointer (some ⟨gc, 0, none⟩), .pointer (some ⟨gr, 0, none⟩), .agg #[.int .i64 3, .int .i64 b, .int .u8 q]] w fun e w' => e = .returned (.bool true) ∧ Done Pc Pr w0 w w' gc gr ((setA s q).2, L) := by
  have HB := Aside0.mk hB
  have HT := Aside0.mk hT
  clear hB hT
  have h6 : ∀ w5, Below w.heap.size w w5 → Calls Try.prog 28 #[.pointer (some ⟨gc, 0, none⟩), .int .u8 q] w5 fun e w' => e = .returned (.int .i64 (setA s q).1) ∧ Aside0 (AS w0.heap.size (fun k => (Pc k ∧ k < w.heap.size) ∨ w5.heap.size ≤ k) w' gc ((setA s q).2, L).1 ((setA s q).2, L).2 ∧ Below w0.heap.size w0 w' ∧ Kept w5 w' (fun k => Pc k ∧ k < w.heap.size)) := fun w5 hb =>
    (Set_A gc _ s L q w0 w5 (below_then HB.out HB.out.size hb) ((HT.out.ac.bound).below hb)).mono fun e w' h => ⟨h.1, ⟨h.2⟩⟩
  have h7 : ∀ w5 w6, Below w.heap.size w w5 → Aside0 (AS w0.heap.size (fun k => (Pc k ∧ k < w.heap.size) ∨ w5.heap.size ≤ k) w6 gc ((setA s q).2, L).1 ((setA s q).2, L).2 ∧ Below w0.heap.size w0 w6 ∧ Kept w5 w6 (fun k => Pc k ∧ k < w.heap.size)) → Calls Try.prog 52 #[.pointer (some ⟨gr, 0, none⟩), .int .u8 q] w6 fun e w' => e = .returned (.int .i64 (setA s q).1) ∧ Aside0 (Done Pc Pr w0 w w' gc gr ((setA s q).2, L)) := fun w5 w6 hb ha =>
    (Set_D gr _ s L q w0 w6 ha.out.2.1 (other HT.out hb ha.out.2.2)).mono fun e w' h => ⟨h.1, ⟨both (st := ((setA s q).2, L)) HT.out hb ha.out.1 ha.out.2.2 h.2.1 h.2.2.1 h.2.2.2⟩⟩
  have hx : ∀ w5 w6 gx, w.heap.size = gx → w5.heap[gx]? = some (.cells #[.int .i64 (3 : Int), .int .i64 b, .int .u8 q] 58 (0, 0)) → Kept w5 w6 (fun k => Pc k ∧ k < w.heap.size) → w6.cell? ⟨gx, 2, none⟩ = some (.int .u8 q) := fun w5 w6 gx hg hx hk => (blk_cell (box_kept hx (Nat.le_of_eq hg) hk) 2).trans rfl
  generalize (setA s q).1 = r1 at *
  go_enter Try.func26, Try.ntmps26
  go_upto_region 11 with (first | ((with_reducible refine gate_dst (N := 5) rfl ?_); refine box_event ?hg (N := 5) ?hd (cs := #[.int .i64 3, .int .i64 b, .int .u8 q]) (t := 58) ?hr ?_; (case hd => rfl); (case hg => rfl); (case hr => first | (go_simp; done) | (go_simp; rfl)); intro gx hgx w5 hbox hb; have x0 : w5.cell? ⟨gx, 0, none⟩ = some (.int .i64 3) := (blk_cell hbox 0).trans rfl; have x1 : w5.cell? ⟨gx, 1, none⟩ = some (.int .i64 b) := (blk_cell hbox 1).trans rfl; have x2 : w5.cell? ⟨gx, 2, none⟩ = some (.int .u8 q) := (blk_cell hbox 2).trans rfl; have HX5 := Aside0.mk hbox; have HI5 := Aside0.mk hgx; have HB5 := Aside0.mk hb; clear hb hbox hgx))
  refine start_ (n := 10) (S := fun w' => w'.cell? ⟨gx, 2, none⟩ = some (.int .u8 q)) (ds := [7]) #[false, false, false, false, false, false, false, false, false, false] (by kernel_rfl) rfl rfl x2 (fun hHeld => ?_); refine with_tabW do11_tab11 do11_bits11 (fun HT_ HW_ => ?_)
  refine pure_ (i := 0) (N := some 57) (v := ?_) (a' := ?_) #[true, false, false, false, false, false, false, false, false, false] rfl rfl (any_of HT_.out (by kernel_rfl)) (fun _ _ _ h => h) (Or.inl ⟨by rfl, ?_⟩) ?_ ?_
  rotate_left
  · intro w'
    go_simp
    with_reducible rfl
  rotate_left
  · simp only [Act.put, List.setIfInBounds_toArray, List.set_cons_zero, List.set_cons_succ]
    rfl
  refine pure_ (i := 1) (N := some 58) (v := ?_) (a' := ?_) #[true, true, false, false, false, false, false, false, false, false] rfl rfl (any_of HT_.out (by kernel_rfl)) (fun _ _ _ h => h) (Or.inl ⟨by rfl, ?_⟩) ?_ ?_
  rotate_left
  · intro w'
    go_simp
    with_reducible rfl
  rotate_left
  · simp only [Act.put, List.setIfInBounds_toArray, List.set_cons_zero, List.set_cons_succ]
    rfl
  refine take_ (i := 2) (N := some 59) (v := ?_) (a' := ?_) #[true, true, true, false, false, false, false, false, false, false] rfl rfl (take_ofW HT_.out HW_.out (by kernel_rfl)) (fun _ _ _ h => h) (Or.inl ⟨by rfl, ?_⟩) hHeld ?_ ?_
  rotate_left
  · rintro w' s0
    go_simp
    with_reducible rfl
  rotate_left
  · simp only [Act.put, List.setIfInBounds_toArray, List.set_cons_zero, List.set_cons_succ]
    rfl
  refine pure_ (i := 4) (N := some 61) (v := ?_) (a' := ?_) #[true, true, true, false, true, false, false, false, false, false] rfl rfl (any_of HT_.out (by kernel_rfl)) (fun _ _ _ h => h) (Or.inl ⟨by rfl, ?_⟩) ?_ ?_
  rotate_left
  · intro w'
    go_simp
    with_reducible rfl
  rotate_left
  · simp only [Act.put, List.setIfInBounds_toArray, List.set_cons_zero, List.set_cons_succ]
    rfl
  refine pure_ (i := 5) (N := some 62) (v := ?_) (a' := ?_) #[true, true, true, false, true, true, false, false, false, false] rfl rfl (any_of HT_.out (by kernel_rfl)) (fun _ _ _ h => h) (Or.inl ⟨by rfl, ?_⟩) ?_ ?_
  rotate_left
  · intro w'
    go_simp
    with_reducible rfl
  rotate_left
  · simp only [Act.put, List.setIfInBounds_toArray, List.set_cons_zero, List.set_cons_succ]
    rfl
  refine take_ (i := 6) (N := some 63) (v := ?_) (a' := ?_) #[true, true, true, false, true, true, true, false, false, false] rfl rfl (take_ofW HT_.out HW_.out (by kernel_rfl)) (fun _ _ _ h => h) (Or.inl ⟨by rfl, ?_⟩) hHeld ?_ ?_
  rotate_left
  · rintro w' s0
    go_simp
    with_reducible rfl
  rotate_left
  · simp only [Act.put, List.setIfInBounds_toArray, List.set_cons_zero, List.set_cons_succ]
    rfl
  refine one_ (i := 3) (N := some 60) #[true, true, true, true, true, true, true, false, false, false] rfl rfl (one_of HT_.out (by kernel_rfl)) (by decide) (fun K hK => ?_)
  refine goes_ Try.func28 (by kernel_rfl) rfl #[.pointer (some ⟨gc, 0, none⟩), .int .u8 q] (by rfl) rfl rfl (by (try simp only [List.map_toArray, List.map_cons, List.map_nil]); rfl) ?_
  with_reducible refine (h6 _ (below_drew HB5.out)).mono ?_
  rintro e w6 ⟨rfl, ha⟩
  refine ⟨_, rfl, ?_⟩
  have hx6 := hx _ _ _ HI5.out.symm (blk_drew HX5.out) ha.out.2.2
  clear hHeld
  refine hK.out _ _ hx6 (fun hHeld => ?_)
  clear hK K
  refine norm_ (a' := ?_) ?_ ?_
  rotate_left
  · show Act.put _ (some 60) _ = _
    simp only [Act.put, List.setIfInBounds_toArray, List.set_cons_zero, List.set_cons_succ]
    rfl
  refine last_ (i := 7) (N := some 64) #[true, true, true, true, true, true, true, true, false, false] rfl rfl (one_of HT_.out (by kernel_rfl)) (by decide) (fun K hK => ?_)
  refine goes_ Try.func52 (by kernel_rfl) rfl #[.pointer (some ⟨gr, 0, none⟩), .int .u8 q] (by rfl) rfl rfl (by (try simp only [List.map_toArray, List.map_cons, List.map_nil]); rfl) ?_
  with_reducible refine (h7 _ _ (below_drew HB5.out) ha).mono ?_
  rintro e w7 ⟨rfl, hd⟩
  refine ⟨_, rfl, ?_⟩
  clear hHeld
  refine hK.out _ _ ?_
  clear hK K
  refine norm_ (a' := ?_) ?_ ?_
  rotate_left
  · show Act.put _ (some 64) _ = _
    simp only [Act.put, List.setIfInBounds_toArray, List.set_cons_zero, List.set_cons_succ]
    rfl
  refine pure_ (i := 8) (N := some 65) (v := ?_) (a' := ?_) #[true, true, true, true, true, true, true, true, true, false] rfl rfl (any_of HT_.out (by kernel_rfl)) (fun _ _ _ h => h) (Or.inl ⟨by rfl, ?_⟩) ?_ ?_
  rotate_left
  · intro w'
    go_simp
    with_reducible rfl
  rotate_left
  · simp only [Act.put, List.setIfInBounds_toArray, List.set_cons_zero, List.set_cons_succ]
    rfl
  refine pure_ (i := 9) (N := some 6) (v := ?_) (a' := ?_) #[true, true, true, true, true, true, true, true, true, true] rfl rfl (any_of HT_.out (by kernel_rfl)) (fun _ _ _ h => h) (Or.inl ⟨by rfl, ?_⟩) ?_ ?_
  rotate_left
  · intro w'
    go_simp
    with_reducible rfl
  rotate_left
  · simp only [Act.put, List.setIfInBounds_toArray, List.set_cons_zero, List.set_cons_succ]
    rfl
  refine done_ (done_of HT_.out (by kernel_rfl)) ?_
  go_wp2
  go_ret
  exact ⟨rfl, hd.out⟩
set_option maxHeartbeats 2000000 in
set_option maxRecDepth 100000 in
theorem do_none (kind : Int) (hkind : kind ≠ 0 ∧ kind ≠ 1 ∧ kind ≠ 2 ∧ kind ≠ 3) {k : Nat} (Pc Pr : Nat → Prop) (gc gr : Nat) (s : Sc) (L : List S77) (b q : Int) (w0 w : World) (hB : Below w0.heap.size w0 w) (hT : Two w0.heap.size Pc Pr w gc gr s L) (_hi : Inv k s L) (_hk : k < 900000) : Calls Try.prog 26 #[.pointer (some ⟨gc, 0, none⟩), .pointer (some ⟨gr, 0, none⟩), .agg #[.int .i64 kind, .int .i64 b, .int .u8 q]] w fun e w' => e = .returned (.bool true) ∧ Done Pc Pr w0 w w' gc gr (s, L) := by
  have HB := Aside0.mk hB
  have HT := Aside0.mk hT
  clear hB hT
  have d0 : (kind == 0) = false := by simpa using hkind.1
  have d1 : (kind == 1) = false := by simpa using hkind.2.1
  have d2 : (kind == 2) = false := by simpa using hkind.2.2.1
  have d3 : (kind == 3) = false := by simpa using hkind.2.2.2
  clear hkind
  go_enter Try.func26, Try.ntmps26
  go_wp2_with (first | ((with_reducible refine gate_dst (N := 5) rfl ?_); refine box_event ?hg (N := 5) ?hd (cs := #[.int .i64 kind, .int .i64 b, .int .u8 q]) (t := 58) ?hr ?_; (case hd => rfl); (case hg => rfl); (case hr => first | (go_simp; done) | (go_simp; rfl)); intro gx hgx w5 hbox hb; have x0 : w5.cell? ⟨gx, 0, none⟩ = some (.int .i64 kind) := (blk_cell hbox 0).trans rfl; have x1 : w5.cell? ⟨gx, 1, none⟩ = some (.int .i64 b) := (blk_cell hbox 1).trans rfl; have x2 : w5.cell? ⟨gx, 2, none⟩ = some (.int .u8 q) := (blk_cell hbox 2).trans rfl; have HX5 := Aside0.mk hbox; have HI5 := Aside0.mk hgx; have HB5 := Aside0.mk hb; clear hb hbox hgx))
  go_ret
  exact ⟨rfl, ⟨_, _, HT.out.below HB5.out, fun k h => .inl h, fun k h => .inl h⟩, below_then HB.out HB.out.size HB5.out, kept_below _ HB5.out⟩
theorem do_calls (kind : Int) {k : Nat} (Pc Pr : Nat → Prop) (gc gr : Nat) (s : Sc) (L : List S77) (b q : Int) (w0 w : World) (hB : Below w0.heap.size w0 w) (hT : Two w0.heap.size Pc Pr w gc gr s L) (hi : Inv k s L) (hk : k < 900000) : Calls Try.prog 26 #[.pointer (some ⟨gc, 0, none⟩), .pointer (some ⟨gr, 0, none⟩), .agg #[.int .i64 kind, .int .i64 b, .int .u8 q]] w fun e w' => e = .returned (.bool true) ∧ Done Pc Pr w0 w w' gc gr (stepA (s, L) kind b q) := by
  unfold stepA
  by_cases h0 : kind = 0
  · rw [if_pos h0, h0]; exact do_ask Pc Pr gc gr s L b q w0 w hB hT hi hk
  · rw [if_neg h0]
    by_cases h1 : kind = 1
    · rw [if_pos h1, h1]; exact do_cancel Pc Pr gc gr s L b q w0 w hB hT hi hk
    · rw [if_neg h1]
      by_cases h2 : kind = 2
      · rw [if_pos h2, h2]; exact do_next Pc Pr gc gr s L b q w0 w hB hT hi hk
      · rw [if_neg h2]
        by_cases h3 : kind = 3
        · rw [if_pos h3, h3]; exact do_set Pc Pr gc gr s L b q w0 w hB hT hi hk
        · rw [if_neg h3]; exact do_none kind ⟨h0, h1, h2, h3⟩ Pc Pr gc gr s L b q w0 w hB hT hi hk
end Go.Proofs.Ytfbjeiloefocgaa.CC
/-! Both arms tell the same. -/
namespace Go.Proofs.Ytfbjeiloefocgaa.CC
open Go.RowKit Go.Proofs.Ytfbjeiloefocgaa.Fl Go.Proofs.Ytfbjeiloefocgaa.PL Go.Proofs.Ytfbjeiloefocgaa.PG Go.Proofs.YtfbjeiloefocgaaW.PrintWords Go.Proofs.YtfbjeiloefocgaaW.PrintLast Go.Proofs.YtfbjeiloefocgaaW.PrintMore
attribute [local go_sem] Oper.semAt_some

theorem same_l0 (l : List Int) (hn : l.length < 1000) : ∀ (k : Nat) (i : Nat), l.length < k + i → i ≤ l.length → selvedgeref01_Same.l0 k l l (i : Int) = some true
  | 0, i, h1, h2 => by omega
  | k + 1, i, h1, h2 => by
    unfold selvedgeref01_Same.l0
    by_cases h : i < l.length
    · rw [if_pos (by omega), if_pos (by omega), if_pos (by omega), if_pos rfl, show wrap64 ((i : Int) + 1) = ((i + 1 : Nat) : Int) by unfold wrap64; omega]
      exact same_l0 l hn k (i + 1) (by omega) (by omega)
    · rw [if_neg (by omega)]
theorem same_self (l : List Int) (hn : l.length < 1000) : selvedgeref01_Same.f (l.length + 1) l l = some true := by
  unfold selvedgeref01_Same.f
  rw [if_pos rfl]
  exact same_l0 l hn _ 0 (by omega) (by omega)
section
variable {k : Nat} {B : Nat} {P : Nat → Prop} {w : World} {g : Nat} {s : Sc} {L : List S77}
theorem Age_D (b : Int) (h : DS B P w g (dn s) (L.map cv)) (hi : Inv k s L) : Calls Try.prog 46 #[.pointer (some ⟨g, 0, none⟩), .int .i64 b] w fun e w' => e = .returned (.int .i64 (ageA L b)) ∧ Below w.heap.size w w' := by
  rw [← age_cv]
  exact AgeD_calls b h (by rw [List.length_map]; exact hi.lt)
theorem Waiting_D (h : DS B P w g (dn s) (L.map cv)) (hi : Inv k s L) : Calls Try.prog 45 #[.pointer (some ⟨g, 0, none⟩)] w fun e w' => (∃ v, e = .returned v ∧ Kd.R (Kd.int .i64) 3 w' w.heap.size (fun _ => True) v (L.map (·.f0))) ∧ Below w.heap.size w w' := by
  rw [← blocks_cv]
  exact WaitingD_calls h (by rw [List.length_map]; exact hi.lt)
theorem Up_D (h : DS B P w g (dn s) (L.map cv)) : Calls Try.prog 49 #[.pointer (some ⟨g, 0, none⟩)] w fun e w' => e = .returned (.bool s.up) ∧ w' = w := by
  have := UpD_calls h
  rw [show (!(dn s).up) = s.up from Bool.not_not _] at this
  exact this
end
def same_T5 : Bool × List (List Nat × List Nat) := (true, [([], []), ([], []), ([], []), ([1, 2], [1, 2]), ([3], [3]), ([0, 4], [0, 4]), ([], []), ([], []), ([], []), ([7, 8], [7, 8]), ([9], [9]), ([6, 10, 5], [6, 10]), ([5, 11], [5, 11])])
def same_B5 : List Nat := [0, 0, 0, 6, 14, 31, 0, 0, 0, 384, 896, 2047, 4095]
theorem same_tab5 : rtab .any (opsOf Try.f23 5) = same_T5 := by kernel_rfl
theorem same_bits5 : waitsOk same_T5.2 same_B5 = true := by kernel_rfl
set_option maxHeartbeats 4000000 in
set_option maxRecDepth 100000 in
theorem same_calls {k : Nat} (B : Nat) (Pc Pr : Nat → Prop) (gc gr : Nat) (s : Sc) (L : List S77) (w : World) (hT : Two B Pc Pr w gc gr s L) (hi : Inv k s L) :
    Calls Try.prog 23 #[.pointer (some ⟨gc, 0, none⟩), .pointer (some ⟨gr, 0, none⟩)] w fun e w' => e = .returned (.bool true) ∧ Below w.heap.size w w' := by
  have HT := Aside0.mk hT
  clear hT
  have h1 := fun (i : Int) (W : World) (hb : Below w.heap.size w W) => Age_calls i (HT.out.below hb).ac hi.lt
  have h2 := fun (i : Int) (W : World) (hb : Below w.heap.size w W) => Age_D i (HT.out.below hb).ar hi
  have h3 := fun (W : World) (hb : Below w.heap.size w W) => Waiting_calls (HT.out.below hb).ac hi.lt
  have h4 := fun (W : World) (hb : Below w.heap.size w W) => Waiting_D (HT.out.below hb).ar hi
  have h5 := fun (W : World) (hb : Below w.heap.size w W) => At_calls (HT.out.below hb).ac
  have h6 := fun (W : World) (hb : Below w.heap.size w W) => AtD_calls (HT.out.below hb).ar
  have h7 := fun (W : World) (hb : Below w.heap.size w W) => Moved_calls (HT.out.below hb).ac
  have h8 := fun (W : World) (hb : Below w.heap.size w W) => MovedD_calls (HT.out.below hb).ar
  have h9 := fun (W : World) (hb : Below w.heap.size w W) => Up_calls (HT.out.below hb).ac
  have h10 := fun (W : World) (hb : Below w.heap.size w W) => Up_D (HT.out.below hb).ar
  simp only [show (dn s).pos = s.pos from rfl, show (dn s).mv = s.mv from rfl] at h6 h8
  have hl : (L.map (·.f0)).length < 900 := by rw [List.length_map]; have := hi.len; omega
  obtain ⟨X, hX⟩ : ∃ X, L.map (·.f0) = X := ⟨_, rfl⟩
  simp only [hX] at h3 h4
  rw [hX] at hl
  have HL := Aside0.mk hl
  have hs := same_self X (by omega)
  obtain ⟨Y, hY⟩ : ∃ Y, X ++ [-1, 5] = Y := ⟨_, rfl⟩
  have hYl : Y.length < 1000 := by rw [← hY]; simp; omega
  have HYE := Aside0.mk hY
  clear hl hX hY
  go_enter Try.func23, Try.ntmps23
  go_upto_region 2 with (first | ((with_reducible refine gate_dst (N := 7) rfl ?_); refine Kd.R_lit (Kd.int .i64) (w0 := w) w.heap.size 3 ?hg (N := 7) ?hd (xs := ([] : List Int)) (inner := []) (ok := fun _ => True) (okp := fun _ => True) ?hr ?hp (fun _ hk => hk) trivial (Below.refl _ _) (Nat.le_refl _) (by simp) ?_; (case hd => rfl); (case hg => rfl); (case hr => first | (go_simp; done) | (go_simp; rfl)); (case hp => exact (Reps.none _ _)); intro v1 w1 ho hb hg_ hnew_; clear hg_ hnew_; have HOw1 := Aside0.mk ho; have HBw1 := Aside0.mk hb; obtain ⟨Av1, cv1, ev1⟩ := Kd.R_slice ho; subst ev1; clear ho hb) | (go_at_call 45; with_reducible refine (h4 _ HBw1.out).mono ?_; rintro e w2 ⟨⟨v2, rfl, ho2⟩, hb2⟩; obtain ⟨A2, c2, e2⟩ := Kd.R_slice ho2; subst e2; have HO2 := Aside0.mk ho2; have HO1 := Aside0.mk (Kd.R_below HOw1.out hb2); have HB2 := Aside0.mk (below_step HBw1.out hb2); clear ho2 hb2) | ((with_reducible refine gate_builtin (b := .append) (xs := #[.tmp 7, .tmp 9]) rfl ?_); at_builtin; refine Kd.R_append_rows (Kd.int .i64) (w0 := w) w.heap.size rfl (.tmp 7) (.tmp 9) 23 3 (.int .i64 0) 8 rfl Try.underlying23 info3 rfl (by decide) (by omega) _ ([] : List Int) X A2 X.length c2 (fun _ => True) (fun _ => False) rfl rfl HO1.out (Kd.R_reads' HO2.out).2.2 (fun x cs h => h) (fun _ h => h.elim) (fun _ _ => trivial) HB2.out HB2.out.size ?aL ?_; (case aL => have := HL.out; simp; omega); intro v3 w3 ho hb hg hat; (try rw [List.nil_append] at ho); (try rw [HYE.out] at ho); have HOw3 := Aside0.mk ho; have HBw3 := Aside0.mk hb; obtain ⟨Av3, cv3, ev3⟩ := Kd.R_slice ho; subst ev3; clear hg hat ho hb) | ((with_reducible refine gate_dst (N := 11) rfl ?_); refine Kd.R_lit (Kd.int .i64) (w0 := w3) w3.heap.size 3 ?hg (N := 11) ?hd (xs := ([-1, 5] : List Int)) (inner := [.int .i64 (-1), .int .i64 5]) (ok := fun _ => True) (okp := fun _ => True) ?hr ?hp (fun _ hk => hk) trivial (Below.refl _ _) (Nat.le_refl _) (by simp) ?_; (case hd => rfl); (case hg => rfl); (case hr => first | (go_simp; done) | (go_simp; rfl)); (case hp => exact (Reps.one (show Kd.M (Kd.int .i64) _ _ _ (-1 : Int) [.int .i64 (-1 : Int)] from rfl) (Reps.one (show Kd.M (Kd.int .i64) _ _ _ (5 : Int) [.int .i64 (5 : Int)] from rfl) (Reps.none _ _)))); intro v4 w4 ho hb hg_ hnew_; clear hg_ hnew_; have HOw4 := Aside0.mk ho; have HBw4 := Aside0.mk hb; obtain ⟨Av4, cv4, ev4⟩ := Kd.R_slice ho; subst ev4; clear ho hb) | ((with_reducible refine gate_builtin (b := .append) (xs := #[.tmp 10, .tmp 11]) rfl ?_); at_builtin; refine Kd.R_append_rows (Kd.int .i64) (w0 := w) w.heap.size rfl (.tmp 10) (.tmp 11) 23 3 (.int .i64 0) 8 rfl Try.underlying23 info3 rfl (by decide) (by omega) _ (X : List Int) ([-1, 5] : List Int) Av4 2 cv4 (fun _ => True) (fun _ => False) rfl rfl (Kd.R_below HOw3.out HBw4.out) (Kd.R_reads' HOw4.out).2.2 (fun x cs h => h) (fun _ h => h.elim) (fun _ _ => trivial) (below_step HBw3.out HBw4.out) (below_step HBw3.out HBw4.out).size ?aL ?_; (case aL => have := HL.out; simp; omega); intro v5 w5 ho hb hg hat; (try rw [List.nil_append] at ho); (try rw [HYE.out] at ho); have HOw5 := Aside0.mk ho; have HBw5 := Aside0.mk hb; obtain ⟨Av5, cv5, ev5⟩ := Kd.R_slice ho; subst ev5; clear hg hat ho hb))
  have HC := Aside0.mk (Kd.R_reads' HOw5.out).2.2
  clear HOw1 HOw3 HOw4 HO1 HO2 HBw1 HBw3 HBw4 HB2
  go_wp2
  go_loopg [6] Y.length (fun kq v6 w' => ∃ i : Nat, i + kq = Y.length ∧ v6 = .int .i64 (i : Int) ∧ Aside0 (Below w.heap.size w w') ∧ Aside0 (Below w5.heap.size w5 w'))
  case atStart => exact ⟨0, by omega, rfl, HBw5, ⟨Below.refl _ _⟩⟩
  case round =>
    obtain ⟨i, hiq, rfl, hb, hb5⟩ := hrel
    cases gk with
    | succ k1 =>
      have hlt : i < Y.length := by omega
      have d1 : decide ((i : Int) < (Y.length : Int)) = true := by simp; omega
      have p1 : 0 ≤ (i : Int) := by omega
      have p2 : (i : Int) < (Y.length : Int) := by omega
      obtain ⟨ad, ea, x0⟩ := Kd.at_int (Kd.C_below HC.out hb5.out) (i : Int) p1 p2
      cases ea
      rw [Int.toNat_natCast] at x0
      generalize rd Y (i : Int) = y at *
      have ew : Aside0 (wrap64 ((i : Int) + 1) = ((i + 1 : Nat) : Int)) := ⟨by unfold wrap64; omega⟩
      replace p1 := eq_true p1
      replace p2 := eq_true p2
      have g1 := h1 y
      have g2 := h2 y
      generalize ageA L y = q at *
      go_upto_region 5 with (fail)
      refine start_ (n := 13) (S := fun w' => w'.cell? (ad.add i) = some (.int .i64 y)) (ds := [11]) #[false, false, false, false, false, false, false, false, false, false, false, false, false] (by kernel_rfl) rfl rfl x0 (fun hHeld => ?_); refine with_tabW same_tab5 same_bits5 (fun HT_ HW_ => ?_)
      refine pure_ (i := 0) (N := some 19) (v := ?_) (a' := ?_) #[true, false, false, false, false, false, false, false, false, false, false, false, false] rfl rfl (any_of HT_.out (by kernel_rfl)) (fun _ _ _ h => h) (Or.inl ⟨by rfl, ?_⟩) ?_ ?_
      rotate_left
      · intro w'
        go_simp
        with_reducible rfl
      rotate_left
      · simp only [Act.put, List.setIfInBounds_toArray, List.set_cons_zero, List.set_cons_succ]
        rfl
      refine pure_ (i := 1) (N := some 20) (v := ?_) (a' := ?_) #[true, true, false, false, false, false, false, false, false, false, false, false, false] rfl rfl (any_of HT_.out (by kernel_rfl)) (fun _ _ _ h => h) (Or.inl ⟨by rfl, ?_⟩) ?_ ?_
      rotate_left
      · intro w'
        go_simp
        with_reducible rfl
      rotate_left
      · simp only [Act.put, List.setIfInBounds_toArray, List.set_cons_zero, List.set_cons_succ]
        rfl
      refine pure_ (i := 2) (N := some 21) (v := ?_) (a' := ?_) #[true, true, true, false, false, false, false, false, false, false, false, false, false] rfl rfl (any_of HT_.out (by kernel_rfl)) (fun _ _ _ h => h) (Or.inl ⟨by rfl, ?_⟩) ?_ ?_
      rotate_left
      · intro w'
        go_simp
        with_reducible rfl
      rotate_left
      · simp only [Act.put, List.setIfInBounds_toArray, List.set_cons_zero, List.set_cons_succ]
        rfl
      refine pure_ (i := 3) (N := some 22) (v := ?_) (a' := ?_) #[true, true, true, true, false, false, false, false, false, false, false, false, false] rfl rfl (any_of HT_.out (by kernel_rfl)) (fun _ _ _ h => h) (Or.inl ⟨by rfl, ?_⟩) ?_ ?_
      rotate_left
      · intro w'
        go_simp
        with_reducible rfl
      rotate_left
      · simp only [Act.put, List.setIfInBounds_toArray, List.set_cons_zero, List.set_cons_succ]
        rfl
      refine take_ (i := 4) (N := some 23) (v := ?_) (a' := ?_) #[true, true, true, true, true, false, false, false, false, false, false, false, false] rfl rfl (take_ofW HT_.out HW_.out (by kernel_rfl)) (fun _ _ _ h => h) (Or.inl ⟨by rfl, ?_⟩) hHeld ?_ ?_
      rotate_left
      · rintro w' s0
        go_simp
        with_reducible rfl
      rotate_left
      · simp only [Act.put, List.setIfInBounds_toArray, List.set_cons_zero, List.set_cons_succ]
        rfl
      refine pure_ (i := 6) (N := some 25) (v := ?_) (a' := ?_) #[true, true, true, true, true, false, true, false, false, false, false, false, false] rfl rfl (any_of HT_.out (by kernel_rfl)) (fun _ _ _ h => h) (Or.inl ⟨by rfl, ?_⟩) ?_ ?_
      rotate_left
      · intro w'
        go_simp
        with_reducible rfl
      rotate_left
      · simp only [Act.put, List.setIfInBounds_toArray, List.set_cons_zero, List.set_cons_succ]
        rfl
      refine pure_ (i := 7) (N := some 26) (v := ?_) (a' := ?_) #[true, true, true, true, true, false, true, true, false, false, false, false, false] rfl rfl (any_of HT_.out (by kernel_rfl)) (fun _ _ _ h => h) (Or.inl ⟨by rfl, ?_⟩) ?_ ?_
      rotate_left
      · intro w'
        go_simp
        with_reducible rfl
      rotate_left
      · simp only [Act.put, List.setIfInBounds_toArray, List.set_cons_zero, List.set_cons_succ]
        rfl
      refine pure_ (i := 8) (N := some 27) (v := ?_) (a' := ?_) #[true, true, true, true, true, false, true, true, true, false, false, false, false] rfl rfl (any_of HT_.out (by kernel_rfl)) (fun _ _ _ h => h) (Or.inl ⟨by rfl, ?_⟩) ?_ ?_
      rotate_left
      · intro w'
        go_simp
        with_reducible rfl
      rotate_left
      · simp only [Act.put, List.setIfInBounds_toArray, List.set_cons_zero, List.set_cons_succ]
        rfl
      refine pure_ (i := 9) (N := some 28) (v := ?_) (a' := ?_) #[true, true, true, true, true, false, true, true, true, true, false, false, false] rfl rfl (any_of HT_.out (by kernel_rfl)) (fun _ _ _ h => h) (Or.inl ⟨by rfl, ?_⟩) ?_ ?_
      rotate_left
      · intro w'
        go_simp
        with_reducible rfl
      rotate_left
      · simp only [Act.put, List.setIfInBounds_toArray, List.set_cons_zero, List.set_cons_succ]
        rfl
      refine take_ (i := 10) (N := some 29) (v := ?_) (a' := ?_) #[true, true, true, true, true, false, true, true, true, true, true, false, false] rfl rfl (take_ofW HT_.out HW_.out (by kernel_rfl)) (fun _ _ _ h => h) (Or.inl ⟨by rfl, ?_⟩) hHeld ?_ ?_
      rotate_left
      · rintro w' s0
        go_simp
        with_reducible rfl
      rotate_left
      · simp only [Act.put, List.setIfInBounds_toArray, List.set_cons_zero, List.set_cons_succ]
        rfl
      refine one_ (i := 5) (N := some 24) #[true, true, true, true, true, true, true, true, true, true, true, false, false] rfl rfl (one_of HT_.out (by kernel_rfl)) (by decide) (fun K hK => ?_)
      refine goes_ Try.func22 (by kernel_rfl) rfl #[.pointer (some ⟨gc, 0, none⟩), .int .i64 y] (by rfl) rfl rfl (by (try simp only [List.map_toArray, List.map_cons, List.map_nil]); rfl) ?_
      with_reducible refine (g1 _ (below_drew hb.out)).mono ?_
      rintro e w6 ⟨rfl, hb6⟩
      have HB6 : Aside0 (Below w.heap.size w w6) := ⟨below_step (below_drew hb.out) hb6⟩
      have HC6 : Aside0 (Below w5.heap.size w5 w6) := ⟨below_step (below_drew hb5.out) hb6⟩
      refine ⟨_, rfl, ?_⟩
      have a0 := pw_cell_below hb6 hHeld
      clear hHeld hb6
      refine hK.out _ _ a0 (fun hHeld => ?_)
      clear hK K
      refine norm_ (a' := ?_) ?_ ?_
      rotate_left
      · show Act.put _ (some 24) _ = _
        simp only [Act.put, List.setIfInBounds_toArray, List.set_cons_zero, List.set_cons_succ]
        rfl
      refine last_ (i := 11) (N := some 30) #[true, true, true, true, true, true, true, true, true, true, true, true, false] rfl rfl (one_of HT_.out (by kernel_rfl)) (by decide) (fun K hK => ?_)
      refine goes_ Try.func46 (by kernel_rfl) rfl #[.pointer (some ⟨gr, 0, none⟩), .int .i64 y] (by rfl) rfl rfl (by (try simp only [List.map_toArray, List.map_cons, List.map_nil]); rfl) ?_
      with_reducible refine (g2 _ HB6.out).mono ?_
      rintro e w7 ⟨rfl, hb7⟩
      have HB7 : Aside0 (Below w.heap.size w w7) := ⟨below_step HB6.out hb7⟩
      have HC7 : Aside0 (Below w5.heap.size w5 w7) := ⟨below_step HC6.out hb7⟩
      refine ⟨_, rfl, ?_⟩
      clear hHeld a0 hb7
      refine hK.out _ _ ?_
      clear hK K
      refine norm_ (a' := ?_) ?_ ?_
      rotate_left
      · show Act.put _ (some 30) _ = _
        simp only [Act.put, List.setIfInBounds_toArray, List.set_cons_zero, List.set_cons_succ]
        rfl
      refine pure_ (i := 12) (N := some 31) (v := ?_) (a' := ?_) #[true, true, true, true, true, true, true, true, true, true, true, true, true] rfl rfl (any_of HT_.out (by kernel_rfl)) (fun _ _ _ h => h) (Or.inl ⟨by rfl, ?_⟩) ?_ ?_
      rotate_left
      · intro w'
        go_simp
        with_reducible rfl
      rotate_left
      · simp only [Act.put, List.setIfInBounds_toArray, List.set_cons_zero, List.set_cons_succ]
        rfl
      refine done_ (done_of HT_.out (by kernel_rfl)) ?_
      clear x0 g1 g2
      go_wp2
      go_roundg k1
      case rel => exact ⟨i + 1, by omega, by first | rfl | rw [ew.out], HB7, HC7⟩
      all_goals omega
    | zero =>
      have d1 : decide ((i : Int) < (Y.length : Int)) = false := by simp; omega
      have d2 : decide (i < Y.length) = false := by simp; omega
      clear h1 h2
      generalize s.pos = q1 at *
      generalize s.mv = q2 at *
      generalize s.up = q3 at *
      go_wp2_with (first | (go_at_call 19; with_reducible refine (h3 _ hb.out).mono ?_; rintro e w6 ⟨⟨v6, rfl, ho6⟩, hb6⟩; obtain ⟨A6, c6, e6⟩ := Kd.R_slice ho6; subst e6; have HO6 := Aside0.mk ho6; have HB6 := Aside0.mk (below_step hb.out hb6); clear ho6 hb6) | (go_at_call 45; with_reducible refine (h4 _ HB6.out).mono ?_; rintro e w7 ⟨⟨v7, rfl, ho7⟩, hb7⟩; obtain ⟨A7, c7, e7⟩ := Kd.R_slice ho7; subst e7; have HO7 := Aside0.mk ho7; have HO6' := Aside0.mk (Kd.R_below HO6.out hb7); have HB7 := Aside0.mk (below_step HB6.out hb7); clear ho7 hb7) | (go_at_call 15; with_reducible refine (selvedgeref01_Same.calls (X.length + 1) A6 c6 X A7 c7 X true w7 (Kd.R_reads' HO6'.out).2.2 (Kd.R_reads' HO6'.out).2.1 (Kd.R_reads' HO7.out).2.2 (Kd.R_reads' HO7.out).2.1 hs).mono ?_; rintro e w8 ⟨rfl, hb8⟩; have HB8 := Aside0.mk (below_step HB7.out hb8.below); clear hb8) | (go_at_call 29; with_reducible refine (h5 _ HB8.out).mono ?_; rintro e w9 ⟨rfl, rfl⟩) | (go_at_call 47; with_reducible refine (h6 _ HB8.out).mono ?_; rintro e w9 ⟨rfl, rfl⟩) | (go_at_call 30; with_reducible refine (h7 _ HB8.out).mono ?_; rintro e w9 ⟨rfl, rfl⟩) | (go_at_call 48; with_reducible refine (h8 _ HB8.out).mono ?_; rintro e w9 ⟨rfl, rfl⟩) | (go_at_call 31; with_reducible refine (h9 _ HB8.out).mono ?_; rintro e w9 ⟨rfl, rfl⟩) | (go_at_call 49; with_reducible refine (h10 _ HB8.out).mono ?_; rintro e w9 ⟨rfl, rfl⟩))
      go_ret
      exact ⟨rfl, HB8.out⟩
end Go.Proofs.Ytfbjeiloefocgaa.CC
/-! All of both arms. -/
namespace Go.Proofs.Ytfbjeiloefocgaa.CC
open Go.RowKit Go.Proofs.Ytfbjeiloefocgaa.Fl Go.Proofs.Ytfbjeiloefocgaa.PL Go.Proofs.Ytfbjeiloefocgaa.PG Go.Proofs.YtfbjeiloefocgaaW.PrintWords Go.Proofs.YtfbjeiloefocgaaW.PrintLast Go.Proofs.YtfbjeiloefocgaaW.PrintMore
attribute [local go_sem] Oper.semAt_some

section
variable {P : Program} {ops : Array Oper} {Q : Exit → Act → World → Prop} {o : Oper} {rest : List Oper} {a : Act} {α : Type}
/-- make([]T, 0, n). -/
theorem Kd.R_make0 (d : Kd α) {w0 W : World} (base e : Nat) (hgd : o.guard = none) {N : Tmp} (_hd : o.dst = some N) (t : TypeId) (x y : Operand) (ho : o.op = .makeSlice t x y) (n : Int) (hx : a.eval x = .int .i64 0) (hy : a.eval y = .int .i64 n)
    (ht : P.underlying t = some (.slice e)) (z : Value) (bytes : Nat) (hinfo : (P.info? e).map (fun i => (i.zero, i.size, i.bytes)) = some (some z, d.sz, bytes)) (_hz : z.cells.size = d.sz) (_hs0 : 0 < d.sz) (hb0 : 0 < bytes)
    (z0 : α) {ok okp : Nat → Prop} (_hzero : d.M W base okp z0 z.cells.toList) (_hok : ∀ k, okp k → ok k) (hfresh : ok W.heap.size) (h0 : 0 ≤ n) (hl : n.toNat * bytes ≤ 281474976710656) (HB : Below base w0 W) (hbase : base ≤ W.heap.size)
    (h : ∀ v1 w1, d.R e w1 base ok v1 (List.replicate 0 z0) → Below base w0 w1 → W.grownBy w1 none → (∃ b, v1.ownBlock = some b ∧ W.heap.size ≤ b) → wpList P ops Q rest (a.put o.dst v1) w1) : wpList P ops Q (o :: rest) a W := by
  obtain ⟨m, rfl⟩ := Int.eq_ofNat_of_zero_le h0
  simp only [Int.toNat_natCast] at hl h
  obtain ⟨i0, hi, hzz⟩ := Option.map_eq_some_iff.1 hinfo
  simp only [Prod.mk.injEq] at hzz
  obtain ⟨hz0, hz1, hz2⟩ := hzz
  have hm : m ≤ 281474976710656 := Nat.le_trans (Nat.le_mul_of_pos_right _ hb0) hl
  have hr := run_make (P := P) W t e i0 z ht hi hz0 .i64 .i64 0 (m : Int) (by omega) (by omega)
    (by
      have h3 : ((i0.bytes * m : Nat) : Int) ≤ 281474976710656 := by rw [hz2, Nat.mul_comm]; omega
      rwa [Int.natCast_mul] at h3) (by omega)
  simp only [Int.toNat_zero, Int.toNat_natCast] at hr
  rw [hz1] at hr
  refine Kd.event_run (v := .slice (some ⟨W.heap.size, 0, none⟩) 0 m) (w1 := W.alloc (.cells (madeCells z.cells (m * d.sz)) e)) hgd (by simp [execOp, ho, hx, hy, hr]) (h _ _ ⟨fun k hk => ?_, [], ?_, Reps.none _ _⟩ (HB.alloc hbase _) (World.grownBy_alloc W _ none) ⟨W.heap.size, by simp [Value.ownBlock], Nat.le_refl _⟩)
  · have : W.heap.size = k := by simpa [Value.ownBlock] using hk
    subst this
    exact hfresh
  · simpa using World.ownsRow_made (base := base) (e := e) (size := d.sz) W (madeCells z.cells (m * d.sz)) m hbase (by simp [maxLen]; omega) (by simp [size_madeCells])
end
/-- All are asked for, or the error. -/
def askAll : List Int → List S77 → Option (List S77)
  | [], L => some L
  | b :: t, L => if (askA L b).1 = 0 then askAll t (askA L b).2 else none
theorem askAll_snoc : ∀ (l : List Int) (b : Int) (L : List S77), askAll (l ++ [b]) L = (askAll l L).bind fun M => if (askA M b).1 = 0 then some (askA M b).2 else none
  | [], b, L => by simp only [List.nil_append, askAll, Option.bind_some]
  | x :: t, b, L => by
    rw [List.cons_append, askAll, askAll]
    split
    · exact askAll_snoc t b _
    · rfl
theorem askAll_app : ∀ (l m : List Int) (L : List S77), askAll (l ++ m) L = (askAll l L).bind fun M => askAll m M
  | [], m, L => rfl
  | x :: t, m, L => by
    rw [List.cons_append, askAll, askAll]
    split
    · exact askAll_app t m _
    · rfl
theorem askAll_none {l : List Int} {i : Nat} {L : List S77} (h : askAll (l.take i) L = none) : askAll l L = none := by
  rw [← List.take_append_drop i l, askAll_app, h]
  rfl
theorem askA_len {L : List S77} {b : Int} (h : (askA L b).1 = 0) : (askA L b).2.length = L.length + 1 := by
  unfold askA at h ⊢
  by_cases h1 : b < 0 ∨ 1024 ≤ b
  · rw [if_pos h1] at h; exact absurd h (by simp)
  · rw [if_neg h1] at h ⊢
    by_cases h2 : 0 ≤ ix77 L b
    · rw [if_pos h2] at h; exact absurd h (by simp)
    · rw [if_neg h2] at h ⊢
      by_cases h3 : L.length = 24
      · rw [if_pos h3] at h; exact absurd h (by simp)
      · rw [if_neg h3]; simp
theorem askAll_len : ∀ (l : List Int) (L M : List S77), askAll l L = some M → M.length = L.length + l.length
  | [], L, M, h => by injection h with h; subst h; rfl
  | b :: t, L, M, h => by
    rw [askAll] at h
    by_cases h1 : (askA L b).1 = 0
    · rw [if_pos h1] at h
      have := askAll_len t _ M h
      rw [askA_len h1] at this
      rw [this, List.length_cons]
      omega
    · rw [if_neg h1] at h; cases h
theorem inv_askAll {N : Nat} {s : Sc} : ∀ (l : List Int) (L M : List S77), Inv N s L → askAll l L = some M → Inv N s M
  | [], L, M, hi, h => by injection h with h; subst h; exact hi
  | b :: t, L, M, hi, h => by
    rw [askAll] at h
    by_cases h1 : (askA L b).1 = 0
    · rw [if_pos h1] at h
      exact inv_askAll t _ M (inv_ask hi b) h
    · rw [if_neg h1] at h; cases h
/-- The blocks to which an arm goes, and how it stands then. -/
def runN : Nat → Sc → List S77 → List Int × Sc
  | 0, s, _ => ([], s)
  | k + 1, s, L => ((pickA s L).1.f0 :: (runN k (goA s (pickA s L)) (dropA L (pickA s L).1.f0)).1, (runN k (goA s (pickA s L)) (dropA L (pickA s L).1.f0)).2)
theorem dropA_len {s : Sc} {L : List S77} {N : Nat} (_hi : Inv N s L) (h0 : 0 < L.length) : (dropA L (pickA s L).1.f0).length + 1 = L.length := by
  have hm := pick_mem (s := s) h0
  unfold dropA cancelA
  have hx : 0 ≤ ix77 L (pickA s L).1.f0 := by
    rcases Int.lt_or_le (ix77 L (pickA s L).1.f0) 0 with h | h
    · exact absurd rfl (ix_neg (by omega) _ hm)
    · exact h
  have hr := ix77_range L (pickA s L).1.f0
  rw [if_neg (by omega), List.length_map, List.length_eraseIdx, if_pos (by omega)]
  omega
def okAll (p per f : Int) : Prop := 1 ≤ p ∧ p ≤ 4 ∧ 1 ≤ per ∧ per ≤ 64 ∧ 0 ≤ f ∧ f < 1024
instance (p per f : Int) : Decidable (okAll p per f) := inferInstanceAs (Decidable (1 ≤ p ∧ p ≤ 4 ∧ 1 ≤ per ∧ per ≤ 64 ∧ 0 ≤ f ∧ f < 1024))
def allS (p per f : Int) : Sc := ⟨p, per, f, true, 0⟩
/-- What All answers. -/
def allA (p per f : Int) (l : List Int) : List Int × Int × Int :=
  if okAll p per f then (match askAll l [] with | some L => ((runN L.length (allS p per f) L).1, (runN L.length (allS p per f) L).2.mv, 0) | none => ([], 0, 2)) else ([], 0, 2)
/-- How far the blocks are told, when one is still to be told. -/
def Pend (kq : Nat) (done : List Int) (b : Int) (ok : Bool) (s : Sc) (M : List S77) (O : List Int × Sc) : Prop :=
  (kq = 0 ∧ ok = false ∧ done = O.1 ∧ s = O.2) ∨ (kq = M.length + 1 ∧ ok = true ∧ done ++ b :: (runN M.length s M).1 = O.1 ∧ (runN M.length s M).2 = O.2)
theorem run_step {N : Nat} {s : Sc} {L : List S77} (hi : Inv N s L) (h0 : 0 < L.length) : runN L.length s L = ((pickA s L).1.f0 :: (runN (dropA L (pickA s L).1.f0).length (goA s (pickA s L)) (dropA L (pickA s L).1.f0)).1, (runN (dropA L (pickA s L).1.f0).length (goA s (pickA s L)) (dropA L (pickA s L).1.f0)).2) := by
  have := dropA_len hi h0
  rw [← this, runN]
theorem pend_next {N : Nat} {s : Sc} {M : List S77} {O : List Int × Sc} {done : List Int} (hi : Inv N s M) (h1 : done ++ (runN M.length s M).1 = O.1) (h2 : (runN M.length s M).2 = O.2) : Pend M.length done (outN s M).1 (outN s M).2 (stN s M).1 (stN s M).2 O := by
  unfold outN stN
  by_cases h0 : M.length = 0
  · rw [if_pos h0, if_pos h0]
    left
    rw [h0] at h1 h2
    exact ⟨h0, rfl, by rw [← h1]; simp [runN], h2⟩
  · rw [if_neg h0, if_neg h0]
    right
    have hp : 0 < M.length := Nat.pos_of_ne_zero h0
    rw [run_step hi hp] at h1 h2
    exact ⟨(dropA_len hi hp).symm, rfl, h1, h2⟩
theorem run_len : ∀ (k : Nat) (s : Sc) (L : List S77), (runN k s L).1.length = k
  | 0, _, _ => rfl
  | k + 1, s, L => by rw [runN, List.length_cons, run_len k]
/-- An arm and a row of numbers that is not its own. -/
structure SepA (B : Nat) (P Q : Nat → Prop) (w : World) (g : Nat) (s : Sc) (M : List S77) (v : Value) (xs : List Int) : Prop where
  arm : AS B P w g s M
  row : Kd.R (Kd.int .i64) 3 w B Q v xs
  ap : ∀ k, P k → ¬ Q k
theorem SepA.below {B : Nat} {P Q : Nat → Prop} {w w' : World} {g : Nat} {s : Sc} {M : List S77} {v : Value} {xs : List Int} (h : SepA B P Q w g s M v xs) (hb : Below w.heap.size w w') : SepA B P Q w' g s M v xs := ⟨h.arm.below hb, Kd.R_below h.row hb, h.ap⟩
/-- Behind a call on the arm. -/
theorem SepA.next {B : Nat} {P P' Q : Nat → Prop} {w w' : World} {g : Nat} {s s' : Sc} {M M' : List S77} {v : Value} {xs : List Int} (h : SepA B P Q w g s M v xs) (ha : AS B P' w' g s' M') (hp : ∀ k, P' k → (P k ∧ k < w.heap.size) ∨ w.heap.size ≤ k) (hk : Kept w w' P) : ∃ Q', SepA B P' Q' w' g s' M' v xs :=
  ⟨_, ha, Kd.R_keptB h.row hk (fun k hq hP => h.ap k hP hq), fun k h1 h2 => (hp k h1).elim (fun h3 => h.ap k h3.1 h2.1) (fun h3 => absurd h2.2.2 (Nat.not_lt.2 h3))⟩
/-- Behind an append to the row. -/
theorem SepA.app {B : Nat} {P Q : Nat → Prop} {w w' : World} {g : Nat} {s : Sc} {M : List S77} {v v' : Value} {xs xs' : List Int} (h : SepA B P Q w g s M v xs) (hr : Kd.R (Kd.int .i64) 3 w' B (fun k => Q k ∨ w.heap.size ≤ k) v' xs') (hg : w.grownBy w' v.ownBlock) : ∃ P' Q', SepA B P' Q' w' g s M v' xs' := by
  have hk : Kept w w' Q := ⟨hg.size, fun k hk hS => hg.block k hk (fun e => hS (h.row.1 k e.symm))⟩
  exact ⟨_, _, h.arm.kept hk (fun k h1 h2 => h.ap k h1 h2), hr, fun k h1 h2 => h2.elim (h.ap k h1.1) (fun h3 => absurd h1.2 (Nat.not_lt.2 h3))⟩
/-- An arm and a row of numbers that is not its own. -/
structure SepD (B : Nat) (P Q : Nat → Prop) (w : World) (g : Nat) (s : Sc) (M : List S86) (v : Value) (xs : List Int) : Prop where
  arm : DS B P w g s M
  row : Kd.R (Kd.int .i64) 3 w B Q v xs
  ap : ∀ k, P k → ¬ Q k
theorem SepD.below {B : Nat} {P Q : Nat → Prop} {w w' : World} {g : Nat} {s : Sc} {M : List S86} {v : Value} {xs : List Int} (h : SepD B P Q w g s M v xs) (hb : Below w.heap.size w w') : SepD B P Q w' g s M v xs := ⟨h.arm.below hb, Kd.R_below h.row hb, h.ap⟩
/-- Behind a call on the arm. -/
theorem SepD.next {B : Nat} {P P' Q : Nat → Prop} {w w' : World} {g : Nat} {s s' : Sc} {M M' : List S86} {v : Value} {xs : List Int} (h : SepD B P Q w g s M v xs) (ha : DS B P' w' g s' M') (hp : ∀ k, P' k → (P k ∧ k < w.heap.size) ∨ w.heap.size ≤ k) (hk : Kept w w' P) : ∃ Q', SepD B P' Q' w' g s' M' v xs :=
  ⟨_, ha, Kd.R_keptB h.row hk (fun k hq hP => h.ap k hP hq), fun k h1 h2 => (hp k h1).elim (fun h3 => h.ap k h3.1 h2.1) (fun h3 => absurd h2.2.2 (Nat.not_lt.2 h3))⟩
/-- Behind an append to the row. -/
theorem SepD.app {B : Nat} {P Q : Nat → Prop} {w w' : World} {g : Nat} {s : Sc} {M : List S86} {v v' : Value} {xs xs' : List Int} (h : SepD B P Q w g s M v xs) (hr : Kd.R (Kd.int .i64) 3 w' B (fun k => Q k ∨ w.heap.size ≤ k) v' xs') (hg : w.grownBy w' v.ownBlock) : ∃ P' Q', SepD B P' Q' w' g s M v' xs' := by
  have hk : Kept w w' Q := ⟨hg.size, fun k hk hS => hg.block k hk (fun e => hS (h.row.1 k e.symm))⟩
  exact ⟨_, _, h.arm.kept hk (fun k h1 h2 => h.ap k h1 h2), hr, fun k h1 h2 => h2.elim (h.ap k h1.1) (fun h3 => absurd h1.2 (Nat.not_lt.2 h3))⟩
set_option maxHeartbeats 4000000 in
set_option maxRecDepth 100000 in
theorem All_bad (p per f : Int) (A0 : Option Addr) (c0 : Nat) (l : List Int) (w : World) (_hC : Kd.C (Kd.int .i64) w A0 l.length l) (_hl : l.length < 1000) (h : ¬ okAll p per f) : Calls Try.prog 11 #[.int .u8 p, .int .i64 per, .int .i64 f, .slice A0 l.length c0] w fun e w' => (∃ v, e = .returned (.tuple #[v, .int .i64 (allA p per f l).2.1, .int .i64 (allA p per f l).2.2]) ∧ Kd.R (Kd.int .i64) 3 w' w.heap.size (fun _ => True) v (allA p per f l).1) ∧ Below w.heap.size w w' := by
  have e : allA p per f l = ([], 0, 2) := by unfold allA; rw [if_neg h]
  rw [e]
  unfold okAll at h
  by_cases hn : okN p per
  · have hnew := fun W => New_ok p per hn W
    unfold okN at hn
    clear _hC
    by_cases h1 : f < 0
    · have d1 : decide (f < 0) = true := by simpa using h1
      go_enter Try.func11, Try.ntmps11
      go_wp2_with (go_at_call 32; with_reducible refine (hnew _).mono ?_; rintro e w1 ⟨⟨g, rfl, -⟩, hb⟩)
      go_ret3
      exact ⟨⟨_, rfl, Kd.R_nil _ _ _ _ _⟩, hb⟩
    · have d1 : decide (f < 0) = false := by simpa using h1
      have d2 : decide (1024 ≤ f) = true := by simp; omega
      go_enter Try.func11, Try.ntmps11
      go_wp2_with (go_at_call 32; with_reducible refine (hnew _).mono ?_; rintro e w1 ⟨⟨g, rfl, -⟩, hb⟩)
      go_ret3
      exact ⟨⟨_, rfl, Kd.R_nil _ _ _ _ _⟩, hb⟩
  · have hnew := fun W => New_no p per hn W
    clear _hC
    go_enter Try.func11, Try.ntmps11
    go_wp2_with (go_at_call 32; with_reducible refine (hnew _).mono ?_; rintro e w1 ⟨rfl, hb⟩)
    go_ret3
    exact ⟨⟨_, rfl, Kd.R_nil _ _ _ _ _⟩, hb⟩
set_option maxHeartbeats 8000000 in
set_option maxRecDepth 100000 in
theorem All_ok (p per f : Int) (A0 : Option Addr) (c0 : Nat) (l : List Int) (w : World) (hC : Kd.C (Kd.int .i64) w A0 l.length l) (hl : l.length < 1000) (h : okAll p per f) : Calls Try.prog 11 #[.int .u8 p, .int .i64 per, .int .i64 f, .slice A0 l.length c0] w fun e w' => (∃ v, e = .returned (.tuple #[v, .int .i64 (allA p per f l).2.1, .int .i64 (allA p per f l).2.2]) ∧ Kd.R (Kd.int .i64) 3 w' w.heap.size (fun _ => True) v (allA p per f l).1) ∧ Below w.heap.size w w' := by
  have HC := Aside0.mk hC
  have hok := h
  obtain ⟨a1, a2, a3, a4, a5, a6⟩ := h
  have hnew := fun W => New_ok p per ⟨a1, a2, a3, a4⟩ W
  have hinv0 : Inv 0 ⟨p, per, 0, true, 0⟩ [] := inv_new p per ⟨a1, a2, a3, a4⟩
  have HI0 := Aside0.mk hinv0
  have hinv1 : ∀ L, Inv 0 ⟨p, per, 0, true, 0⟩ L → Inv 0 (allS p per f) L := fun L h => ⟨h.pol, h.per, ⟨a5, a6⟩, h.len, h.nd, h.bl, h.age, h.mv⟩
  have HI1 := Aside0.mk hinv1
  have hall : allA p per f l = (match askAll l [] with | some L => ((runN L.length (allS p per f) L).1, (runN L.length (allS p per f) L).2.mv, 0) | none => ([], 0, 2)) := by unfold allA; rw [if_pos hok]
  have HALL := Aside0.mk hall
  have d1 : decide (f < 0) = false := by simp; omega
  have d2 : decide (1024 ≤ f) = false := by simp; omega
  obtain ⟨R, hR⟩ : ∃ R, allA p per f l = R := ⟨_, rfl⟩
  rw [hR] at HALL ⊢
  have HASK : Aside0 (∀ (s : Sc) (L : List S77) (b : Int) (g : Nat) (P : Nat → Prop) (W : World), Below w.heap.size w W → AS w.heap.size P W g s L → Inv 0 s L → Calls Try.prog 21 #[.pointer (some ⟨g, 0, none⟩), .int .i64 b] W fun e w' => e = .returned (.int .i64 (askA L b).1) ∧ AS w.heap.size (fun k => P k ∨ W.heap.size ≤ k) w' g s (askA L b).2 ∧ Below w.heap.size w w' ∧ Kept W w' P) := ⟨fun s L b g P W hb h hi => Ask_A (k := 0) g P s L b w W hb h hi⟩
  have HNEXT : Aside0 (∀ (N : Nat) (s : Sc) (L : List S77) (g : Nat) (P : Nat → Prop) (W : World), Below w.heap.size w W → AS w.heap.size P W g s L → Inv N s L → N < 900000 → Calls Try.prog 20 #[.pointer (some ⟨g, 0, none⟩)] W fun e w' => e = .returned (.tuple #[.int .i64 (outN s L).1, .bool (outN s L).2]) ∧ (∃ P', AS w.heap.size P' w' g (stN s L).1 (stN s L).2 ∧ (∀ k, P' k → (P k ∧ k < W.heap.size) ∨ W.heap.size ≤ k)) ∧ Below w.heap.size w w' ∧ Kept W w' P) := ⟨fun N s L g P W hb h hi hk => by
    refine (Next_A (k := N) g (fun k => P k ∧ k < W.heap.size) s L w W hb h.bound hi hk (fun k hk => hk.2)).mono ?_
    rintro e w' ⟨he, h1, h2, h3⟩
    exact ⟨he, ⟨_, h1, fun k hk => hk⟩, h2, h3.1, fun k hk hS => h3.2 k hk (fun e => hS e.1)⟩⟩
  have hnew' := hnew
  clear hC hnew hinv0 hinv1 hall hok a1 a2 a3 a4 a5 a6 hR
  go_enter Try.func11, Try.ntmps11
  go_upto_region 4 with (go_at_call 32; with_reducible refine (hnew' _).mono ?_; rintro e w1 ⟨⟨g, rfl, hn1⟩, hb1⟩; have HN1 := Aside0.mk hn1; have HB1 := Aside0.mk hb1; clear hn1 hb1)
  clear hnew'
  go_wp2
  go_loopg [13, 14, 33] l.length (fun kq _ _ v33 w' => ∃ (i : Nat) (L : List S77) (P : Nat → Prop), i + kq = l.length ∧ v33 = .int .i64 (i : Int) ∧ Aside0 (askAll (l.take i) [] = some L) ∧ Aside0 (AS w.heap.size P w' g ⟨p, per, 0, true, 0⟩ L) ∧ Aside0 (Below w.heap.size w w'))
  case atStart => exact ⟨0, [], _, by omega, rfl, ⟨rfl⟩, HN1, HB1⟩
  case round =>
    obtain ⟨i, L, P, hi, rfl, hL, hS, hb⟩ := hrel
    clear HN1 HB1
    have HI := Aside0.mk (inv_askAll _ _ _ HI0.out hL.out)
    cases gk with
    | succ k1 =>
      have hlt : i < l.length := by omega
      have c1 : decide ((i : Int) < (l.length : Int)) = true := by simp; omega
      have p1 : 0 ≤ (i : Int) := by omega
      have p2 : (i : Int) < (l.length : Int) := by omega
      obtain ⟨ad, ea, x0⟩ := Kd.at_int (Kd.C_below HC.out hb.out) (i : Int) p1 p2
      cases ea
      have hy : rd l (i : Int) = l[i] := by simp [rd, List.getD_eq_getElem?_getD, hlt]
      rw [hy] at x0
      rw [Int.toNat_natCast] at x0
      have ew : Aside0 (wrap64 ((i : Int) + 1) = ((i + 1 : Nat) : Int)) := ⟨by unfold wrap64; omega⟩
      replace p1 := eq_true p1
      replace p2 := eq_true p2
      have hsn := askAll_snoc (l.take i) l[i] []
      rw [← List.take_succ_eq_append_getElem hlt, hL.out, Option.bind_some] at hsn
      have HSN := Aside0.mk hsn
      have hask := HASK.out _ L l[i] g P _ hb.out hS.out HI.out
      generalize l[i] = b at *
      clear hy hsn
      by_cases he : (askA L b).1 = 0
      · have HE := Aside0.mk he
        rw [he] at hask
        clear he
        go_wp2_with (go_at_call 21; with_reducible refine hask.mono ?_; rintro e w2 ⟨rfl, h1, h2, -⟩; have H1 := Aside0.mk h1; have H2 := Aside0.mk h2; clear h1 h2)
        go_roundg k1
        case rel => exact ⟨i + 1, _, _, by omega, by first | rfl | rw [ew.out], ⟨by rw [HSN.out, if_pos HE.out]⟩, H1, H2⟩
        all_goals omega
      · have d3 : ((askA L b).1 == 0) = false := by simpa using he
        have d4 : ((askA L b).1 != 0) = true := by simpa using he
        have hfin : R = ([], 0, 2) := by
          rw [HALL.out, askAll_none (i := i + 1) (by rw [HSN.out, if_neg he])]
        have HF := Aside0.mk hfin
        clear he hfin
        go_wp2_with (go_at_call 21; with_reducible refine hask.mono ?_; rintro e w2 ⟨rfl, h1, h2, -⟩; have H2 := Aside0.mk h2; clear h1 h2)
        go_ret3
        rw [HF.out]
        exact ⟨⟨_, rfl, Kd.R_nil _ _ _ _ _⟩, H2.out⟩
    | zero =>
      have c1 : decide ((i : Int) < (l.length : Int)) = false := by simp; omega
      have c1b : decide (i < l.length) = false := by simp; omega
      have hil : i = l.length := by omega
      have hL2 := hL.out
      rw [hil, List.take_length] at hL2
      have hR2 : R = ((runN L.length (allS p per f) L).1, (runN L.length (allS p per f) L).2.mv, 0) := by rw [HALL.out, hL2]
      have hlen := askAll_len _ _ _ hL2
      rw [List.length_nil, Nat.zero_add] at hlen
      have HR2 := Aside0.mk hR2
      obtain ⟨vv, hgv⟩ := hS.out.held.imp (fun _ h => h.1)
      have q2 := (blk_cell hgv 2)
      have f2 := blk_frozen hgv 2
      have HGV := Aside0.mk hgv
      clear hil hL2 hR2 hgv
      replace q2 : wr.cell? ⟨g, 2, none⟩ = some (.int .i64 0) := q2
      go_upto_region 12 with (fail)
      obtain ⟨hs2, -⟩ := AS.setc hS.out 2 (.int .i64 f) (allS p per f) (fun _ => rfl)
      have hb2 : Below w.heap.size w (wr.setCell ⟨g, 2, none⟩ (.int .i64 f)) := hb.out.setCell (p := ⟨g, 2, none⟩) hS.out.base _
      have hinv := HI1.out L HI.out
      generalize wr.setCell ⟨g, 2, none⟩ (.int .i64 f) = w2 at *
      have HS2 := Aside0.mk hs2
      have HB2 := Aside0.mk hb2
      have HINV := Aside0.mk hinv
      obtain ⟨O, hO⟩ : ∃ O, runN L.length (allS p per f) L = O := ⟨_, rfl⟩
      rw [hO] at HR2
      have HO := Aside0.mk hO
      clear hs2 hb2 hinv hO q2 f2 HGV hS hb HI hL
      go_upto_region 13 with (first | ((with_reducible refine gate_dst (N := 49) rfl ?_); refine Kd.R_make0 (Kd.int .i64) (w0 := w) w.heap.size 3 ?hg (N := 49) ?hd 23 (.const (.int .i64 0)) (.tmp 48) ?ho (l.length : Int) ?hx ?hy Try.underlying23 (.int .i64 0) 8 info3 rfl (by decide) (by omega) (0 : Int) (ok := fun k => w2.heap.size ≤ k) (okp := fun _ => False) ?hz (fun _ hk => hk.elim) (Nat.le_refl _) ?h0 ?hl HB2.out HB2.out.size ?_; (case hg => rfl); (case hd => rfl); (case ho => rfl); (case hx => rfl); (case hy => rfl); (case hz => exact rfl); (case h0 => omega); (case hl => omega); intro v1 w3 ho hb hg_ hnew_; have HO3 := Aside0.mk ho; have HB3 := Aside0.mk hb; have HG3 := Aside0.mk hg_; clear ho hb hg_ hnew_))
      have hb23 : Below w2.heap.size w2 w3 := ⟨HG3.out.os, HG3.out.tape, HG3.out.output, HG3.out.size, fun k hk => HG3.out.block k hk (by simp)⟩
      have hnx := HNEXT.out 0 _ L g (fun k => P k ∧ k < w2.heap.size) w3 HB3.out (HS2.out.bound.below hb23) HINV.out (by omega)
      have hpn := pend_next (done := []) HINV.out (by rw [HO.out]; rfl) (by rw [HO.out])
      have hiv := inv_stN HINV.out
      have hl24 := HINV.out.len
      obtain ⟨x0, hx0⟩ : ∃ x0, (outN (allS p per f) L).1 = x0 := ⟨_, rfl⟩
      obtain ⟨b0, hb0⟩ : ∃ b0, (outN (allS p per f) L).2 = b0 := ⟨_, rfl⟩
      obtain ⟨s1, hs1⟩ : ∃ s1, (stN (allS p per f) L).1 = s1 := ⟨_, rfl⟩
      obtain ⟨M1, hM1⟩ : ∃ M1, (stN (allS p per f) L).2 = M1 := ⟨_, rfl⟩
      rw [hs1, hM1, hx0, hb0] at hnx hpn
      rw [hs1, hM1] at hiv
      have hse : SepA w.heap.size (fun k => P k ∧ k < w2.heap.size) (fun k => w2.heap.size ≤ k) w3 g (allS p per f) L v1 [] := ⟨HS2.out.bound.below hb23, HO3.out, fun k h1 h2 => absurd h1.2 (Nat.not_lt.2 h2)⟩
      have HSE := Aside0.mk hse
      have hlm : (runN L.length (allS p per f) L).1.length = L.length := run_len _ _ _
      rw [HO.out] at hlm
      have HPN := Aside0.mk hpn
      have HIV := Aside0.mk hiv
      have HLM := Aside0.mk hlm
      clear hb23 hs1 hM1 hx0 hb0 hpn hiv hse HB2 HG3 HS2 hlm
      go_upto_region 14 with (go_at_call 20; with_reducible refine hnx.mono ?_; rintro e w4 ⟨rfl, ⟨P4, h1, h4⟩, h2, h3⟩; have H1 := Aside0.mk h1; have H2 := Aside0.mk h2; have H3 := Aside0.mk h3; have H4 := Aside0.mk h4; clear h1 h2 h3 h4 hnx)
      have HSEP : Aside0 (∃ P Q, SepA w.heap.size P Q w4 g s1 M1 v1 []) := ⟨_, HSE.out.next H1.out H4.out H3.out⟩
      clear H1 H3 H4 HSE HO3 HB3
      go_loopg [15, 16, 17] L.length (fun kq v15 v16 v17 w' => ∃ (done : List Int) (x : Int) (ok : Bool) (s' : Sc) (M : List S77), v16 = .int .i64 x ∧ v17 = .bool ok ∧ Aside0 (Pend kq done x ok s' M O) ∧ Aside0 (∃ N, N + kq ≤ 30 ∧ Inv N s' M) ∧ Aside0 (∃ P Q, SepA w.heap.size P Q w' g s' M v15 done) ∧ Aside0 (Below w.heap.size w w'))
      case atStart => exact ⟨[], x0, b0, s1, M1, rfl, rfl, HPN, ⟨1, by omega, HIV.out⟩, HSEP, H2⟩
      case round =>
        obtain ⟨done, x, ok, s', M, rfl, rfl, hP, hI, hS, hb⟩ := hrel
        clear HPN HIV HSEP H2
        obtain ⟨P9, Q9, hsep⟩ := hS.out
        have HSP := Aside0.mk hsep
        clear hsep
        cases gk with
        | zero =>
          rcases hP.out with ⟨-, rfl, rfl, rfl⟩ | ⟨h, -⟩
          · obtain ⟨vv, hgv⟩ := HSP.out.arm.held.imp (fun _ h => h.1)
            have q4 : wr.cell? ⟨g, 4, none⟩ = some (.int .i64 O.2.mv) := (blk_cell hgv 4).trans rfl
            clear hgv
            go_wp2
            go_quiet (fail)
            go_wp2
            go_ret3
            rw [HR2.out]
            exact ⟨⟨_, rfl, Kd.R_mono (Kd.R_below HSP.out.row (pw_below_drewN (Below.refl _ _) nq)) (fun _ _ => trivial)⟩, pw_below_drewN hb.out nq⟩
          · exact absurd h (by omega)
        | succ k1 =>
          rcases hP.out with ⟨h, -⟩ | ⟨hk, rfl, h1, h2⟩
          · exact absurd h (by omega)
          obtain rfl : k1 = M.length := by omega
          obtain ⟨xs, hxs⟩ : ∃ xs, done = xs := ⟨_, rfl⟩
          subst hxs
          have h1' : (done ++ [x]) ++ (runN M.length s' M).1 = O.1 := by rw [← h1]; simp
          obtain ⟨N, hN, hinv⟩ := hI.out
          have hpn := pend_next hinv h1' h2
          have el : done.length < 1000 := by
            have := congrArg List.length h1
            rw [List.length_append] at this
            have h9 := HLM.out
            omega
          have EL := Aside0.mk el
          have HPN := Aside0.mk hpn
          have hnx : Aside0 (∀ (W : World) (v : Value) (P Q : Nat → Prop) (xs : List Int), Below w.heap.size w W → SepA w.heap.size P Q W g s' M v xs → Calls Try.prog 20 #[.pointer (some ⟨g, 0, none⟩)] W fun e w' => e = .returned (.tuple #[.int .i64 (outN s' M).1, .bool (outN s' M).2]) ∧ (∃ P Q, SepA w.heap.size P Q w' g (stN s' M).1 (stN s' M).2 v xs) ∧ Below w.heap.size w w') := ⟨fun W v P Q xs hb hsp => (HNEXT.out N s' M g P W hb hsp.arm hinv (by omega)).mono (fun e w' h => ⟨h.1, ⟨_, hsp.next h.2.1.choose_spec.1 h.2.1.choose_spec.2 h.2.2.2⟩, h.2.2.1⟩)⟩
          have hin : Aside0 (∃ N, N + M.length ≤ 30 ∧ Inv N (stN s' M).1 (stN s' M).2) := ⟨N + 1, by omega, inv_stN hinv⟩
          clear h1 h1' h2 hpn el hk hP hI hS hinv
          have HRW := Aside0.mk HSP.out.row
          go_upto_region 15 with (first | ((with_reducible refine gate_builtin (b := .append) (xs := #[.tmp 61, .tmp 63]) rfl ?_); at_builtin; refine Kd.R_append (Kd.int .i64) (w0 := w) w.heap.size rfl (.tmp 61) (.tmp 63) 23 3 (.int .i64 0) 8 rfl Try.underlying23 info3 rfl (by decide) (by omega) _ done x [.int .i64 x] (fun k => Q9 k ∨ wr.heap.size ≤ k) (fun _ => False) rfl rfl ?aP (fun _ hk => hk.elim) ?aF ?aO hb.out ?aS ?aL ?_; (case aP => exact rfl); (case aF => exact (fun _ hk => .inr hk)); (case aO => exact Kd.R_mono HRW.out (fun _ hk => .inl hk)); (case aS => exact hb.out.size); (case aL => have := EL.out; omega); intro v2 w9 ho hb9 hg hat; have HO9 := Aside0.mk ho; have HB9 := Aside0.mk hb9; have HG9 := Aside0.mk hg; clear ho hb9 hg hat))
          obtain ⟨P8, Q8, hs9⟩ := HSP.out.app HO9.out HG9.out
          have hnx9 := hnx.out w9 v2 P8 Q8 _ HB9.out hs9
          generalize (outN s' M).1 = x1 at *
          generalize (outN s' M).2 = b1 at *
          generalize (stN s' M).1 = s9 at *
          generalize (stN s' M).2 = M9 at *
          clear hnx hs9 HSP HRW HO9 HG9 hb
          go_wp2_with (go_at_call 20; with_reducible refine hnx9.mono ?_; rintro e w4 ⟨rfl, h1, h2⟩; have H1 := Aside0.mk h1; have H2 := Aside0.mk h2; clear h1 h2 hnx9)
          go_roundg M.length
          case rel => exact ⟨done ++ [x], x1, b1, s9, M9, rfl, rfl, HPN, hin, H1, H2⟩
          all_goals omega

set_option maxHeartbeats 4000000 in
set_option maxRecDepth 100000 in
theorem AllD_bad (p per f : Int) (A0 : Option Addr) (c0 : Nat) (l : List Int) (w : World) (_hC : Kd.C (Kd.int .i64) w A0 l.length l) (_hl : l.length < 1000) (h : ¬ okAll p per f) : Calls Try.prog 13 #[.int .u8 p, .int .i64 per, .int .i64 f, .slice A0 l.length c0] w fun e w' => (∃ v, e = .returned (.tuple #[v, .int .i64 (allA p per f l).2.1, .int .i64 (allA p per f l).2.2]) ∧ Kd.R (Kd.int .i64) 3 w' w.heap.size (fun _ => True) v (allA p per f l).1) ∧ Below w.heap.size w w' := by
  have e : allA p per f l = ([], 0, 2) := by unfold allA; rw [if_neg h]
  rw [e]
  unfold okAll at h
  by_cases hn : okN p per
  · have hnew := fun W => NewD_ok p per hn W
    unfold okN at hn
    clear _hC
    by_cases h1 : f < 0
    · have d1 : decide (f < 0) = true := by simpa using h1
      go_enter Try.func13, Try.ntmps13
      go_wp2_with (go_at_call 33; with_reducible refine (hnew _).mono ?_; rintro e w1 ⟨⟨g, rfl, -⟩, hb⟩)
      go_ret3
      exact ⟨⟨_, rfl, Kd.R_nil _ _ _ _ _⟩, hb⟩
    · have d1 : decide (f < 0) = false := by simpa using h1
      have d2 : decide (1024 ≤ f) = true := by simp; omega
      go_enter Try.func13, Try.ntmps13
      go_wp2_with (go_at_call 33; with_reducible refine (hnew _).mono ?_; rintro e w1 ⟨⟨g, rfl, -⟩, hb⟩)
      go_ret3
      exact ⟨⟨_, rfl, Kd.R_nil _ _ _ _ _⟩, hb⟩
  · have hnew := fun W => NewD_no p per hn W
    clear _hC
    go_enter Try.func13, Try.ntmps13
    go_wp2_with (go_at_call 33; with_reducible refine (hnew _).mono ?_; rintro e w1 ⟨rfl, hb⟩)
    go_ret3
    exact ⟨⟨_, rfl, Kd.R_nil _ _ _ _ _⟩, hb⟩
set_option maxHeartbeats 8000000 in
set_option maxRecDepth 100000 in
theorem AllD_ok (p per f : Int) (A0 : Option Addr) (c0 : Nat) (l : List Int) (w : World) (hC : Kd.C (Kd.int .i64) w A0 l.length l) (hl : l.length < 1000) (h : okAll p per f) : Calls Try.prog 13 #[.int .u8 p, .int .i64 per, .int .i64 f, .slice A0 l.length c0] w fun e w' => (∃ v, e = .returned (.tuple #[v, .int .i64 (allA p per f l).2.1, .int .i64 (allA p per f l).2.2]) ∧ Kd.R (Kd.int .i64) 3 w' w.heap.size (fun _ => True) v (allA p per f l).1) ∧ Below w.heap.size w w' := by
  have HC := Aside0.mk hC
  have hok := h
  obtain ⟨a1, a2, a3, a4, a5, a6⟩ := h
  have hnew := fun W => NewD_ok p per ⟨a1, a2, a3, a4⟩ W
  have hinv0 : Inv 0 ⟨p, per, 0, true, 0⟩ [] := inv_new p per ⟨a1, a2, a3, a4⟩
  have HI0 := Aside0.mk hinv0
  have hinv1 : ∀ L, Inv 0 ⟨p, per, 0, true, 0⟩ L → Inv 0 (allS p per f) L := fun L h => ⟨h.pol, h.per, ⟨a5, a6⟩, h.len, h.nd, h.bl, h.age, h.mv⟩
  have HI1 := Aside0.mk hinv1
  have hall : allA p per f l = (match askAll l [] with | some L => ((runN L.length (allS p per f) L).1, (runN L.length (allS p per f) L).2.mv, 0) | none => ([], 0, 2)) := by unfold allA; rw [if_pos hok]
  have HALL := Aside0.mk hall
  have d1 : decide (f < 0) = false := by simp; omega
  have d2 : decide (1024 ≤ f) = false := by simp; omega
  obtain ⟨R, hR⟩ : ∃ R, allA p per f l = R := ⟨_, rfl⟩
  rw [hR] at HALL ⊢
  have HASK : Aside0 (∀ (s : Sc) (L : List S77) (b : Int) (g : Nat) (P : Nat → Prop) (W : World), Below w.heap.size w W → DS w.heap.size P W g (dn s) (L.map cv) → Inv 0 s L → Calls Try.prog 34 #[.pointer (some ⟨g, 0, none⟩), .int .i64 b] W fun e w' => e = .returned (.int .i64 (askA L b).1) ∧ DS w.heap.size (fun k => P k ∨ W.heap.size ≤ k) w' g (dn s) ((askA L b).2.map cv) ∧ Below w.heap.size w w' ∧ Kept W w' P) := ⟨fun s L b g P W hb h hi => Ask_D (k := 0) g P s L b w W hb h hi⟩
  have HNEXT : Aside0 (∀ (N : Nat) (s : Sc) (L : List S77) (g : Nat) (P : Nat → Prop) (W : World), Below w.heap.size w W → DS w.heap.size P W g (dn s) (L.map cv) → Inv N s L → N < 900000 → Calls Try.prog 35 #[.pointer (some ⟨g, 0, none⟩)] W fun e w' => e = .returned (.tuple #[.int .i64 (outN s L).1, .bool (outN s L).2]) ∧ (∃ P', DS w.heap.size P' w' g (dn (stN s L).1) ((stN s L).2.map cv) ∧ (∀ k, P' k → (P k ∧ k < W.heap.size) ∨ W.heap.size ≤ k)) ∧ Below w.heap.size w w' ∧ Kept W w' P) := ⟨fun N s L g P W hb h hi hk => by
    refine (Next_D (k := N) g (fun k => P k ∧ k < W.heap.size) s L w W hb h.bound hi hk).mono ?_
    rintro e w' ⟨he, h1, h2, h3⟩
    exact ⟨he, ⟨_, h1, fun k hk => hk⟩, h2, h3.1, fun k hk hS => h3.2 k hk (fun e => hS e.1)⟩⟩
  have hnew' := hnew
  clear hC hnew hinv0 hinv1 hall hok a1 a2 a3 a4 a5 a6 hR
  go_enter Try.func13, Try.ntmps13
  go_upto_region 4 with (go_at_call 33; with_reducible refine (hnew' _).mono ?_; rintro e w1 ⟨⟨g, rfl, hn1⟩, hb1⟩; have HN1 := Aside0.mk hn1; have HB1 := Aside0.mk hb1; clear hn1 hb1)
  clear hnew'
  go_wp2
  go_loopg [12] l.length (fun kq v12 w' => ∃ (i : Nat) (L : List S77) (P : Nat → Prop), i + kq = l.length ∧ v12 = .int .i64 (i : Int) ∧ Aside0 (askAll (l.take i) [] = some L) ∧ Aside0 (DS w.heap.size P w' g (dn ⟨p, per, 0, true, 0⟩) (L.map cv)) ∧ Aside0 (Below w.heap.size w w'))
  case atStart => exact ⟨0, [], _, by omega, rfl, ⟨rfl⟩, HN1, HB1⟩
  case round =>
    obtain ⟨i, L, P, hi, rfl, hL, hS, hb⟩ := hrel
    clear HN1 HB1
    have HI := Aside0.mk (inv_askAll _ _ _ HI0.out hL.out)
    cases gk with
    | succ k1 =>
      have hlt : i < l.length := by omega
      have c1 : decide ((i : Int) < (l.length : Int)) = true := by simp; omega
      have p1 : 0 ≤ (i : Int) := by omega
      have p2 : (i : Int) < (l.length : Int) := by omega
      obtain ⟨ad, ea, x0⟩ := Kd.at_int (Kd.C_below HC.out hb.out) (i : Int) p1 p2
      cases ea
      have hy : rd l (i : Int) = l[i] := by simp [rd, List.getD_eq_getElem?_getD, hlt]
      rw [hy] at x0
      rw [Int.toNat_natCast] at x0
      have ew : Aside0 (wrap64 ((i : Int) + 1) = ((i + 1 : Nat) : Int)) := ⟨by unfold wrap64; omega⟩
      replace p1 := eq_true p1
      replace p2 := eq_true p2
      have hsn := askAll_snoc (l.take i) l[i] []
      rw [← List.take_succ_eq_append_getElem hlt, hL.out, Option.bind_some] at hsn
      have HSN := Aside0.mk hsn
      have hask := HASK.out _ L l[i] g P _ hb.out hS.out HI.out
      generalize l[i] = b at *
      clear hy hsn
      by_cases he : (askA L b).1 = 0
      · have HE := Aside0.mk he
        rw [he] at hask
        clear he
        go_wp2_with (go_at_call 34; with_reducible refine hask.mono ?_; rintro e w2 ⟨rfl, h1, h2, -⟩; have H1 := Aside0.mk h1; have H2 := Aside0.mk h2; clear h1 h2)
        go_roundg k1
        case rel => exact ⟨i + 1, _, _, by omega, by first | rfl | rw [ew.out], ⟨by rw [HSN.out, if_pos HE.out]⟩, H1, H2⟩
        all_goals omega
      · have d3 : ((askA L b).1 == 0) = false := by simpa using he
        have d4 : ((askA L b).1 != 0) = true := by simpa using he
        have hfin : R = ([], 0, 2) := by
          rw [HALL.out, askAll_none (i := i + 1) (by rw [HSN.out, if_neg he])]
        have HF := Aside0.mk hfin
        clear he hfin
        go_wp2_with (go_at_call 34; with_reducible refine hask.mono ?_; rintro e w2 ⟨rfl, h1, h2, -⟩; have H2 := Aside0.mk h2; clear h1 h2)
        go_ret3
        rw [HF.out]
        exact ⟨⟨_, rfl, Kd.R_nil _ _ _ _ _⟩, H2.out⟩
    | zero =>
      have c1 : decide ((i : Int) < (l.length : Int)) = false := by simp; omega
      have c1b : decide (i < l.length) = false := by simp; omega
      have hil : i = l.length := by omega
      have hL2 := hL.out
      rw [hil, List.take_length] at hL2
      have hR2 : R = ((runN L.length (allS p per f) L).1, (runN L.length (allS p per f) L).2.mv, 0) := by rw [HALL.out, hL2]
      have hlen := askAll_len _ _ _ hL2
      rw [List.length_nil, Nat.zero_add] at hlen
      have HR2 := Aside0.mk hR2
      obtain ⟨vv, hgv⟩ := hS.out.held.imp (fun _ h => h.1)
      have q2 := (blk_cell hgv 2)
      have f2 := blk_frozen hgv 2
      have HGV := Aside0.mk hgv
      clear hil hL2 hR2 hgv
      replace q2 : wr.cell? ⟨g, 2, none⟩ = some (.int .i64 0) := q2
      go_upto_region 10 with (fail)
      obtain ⟨hs2, -⟩ := DS.setc hS.out 2 (.int .i64 f) (dn (allS p per f)) (fun _ => rfl)
      have hb2 : Below w.heap.size w (wr.setCell ⟨g, 2, none⟩ (.int .i64 f)) := hb.out.setCell (p := ⟨g, 2, none⟩) hS.out.base _
      have hinv := HI1.out L HI.out
      generalize wr.setCell ⟨g, 2, none⟩ (.int .i64 f) = w2 at *
      have HS2 := Aside0.mk hs2
      have HB2 := Aside0.mk hb2
      have HINV := Aside0.mk hinv
      obtain ⟨O, hO⟩ : ∃ O, runN L.length (allS p per f) L = O := ⟨_, rfl⟩
      rw [hO] at HR2
      have HO := Aside0.mk hO
      clear hs2 hb2 hinv hO q2 f2 HGV hS hb HI hL
      have hse : SepD w.heap.size (fun k => P k ∧ k < w2.heap.size) (fun _ => False) w2 g (dn (allS p per f)) (L.map cv) (.slice none 0 0) [] := ⟨HS2.out.bound, Kd.R_nil _ _ _ _ _, fun k h1 h2 => h2⟩
      have HSE : Aside0 (∃ P Q, SepD w.heap.size P Q w2 g (dn (allS p per f)) (L.map cv) (.slice none 0 0) []) := ⟨_, _, hse⟩
      have hlm : (runN L.length (allS p per f) L).1.length = L.length := run_len _ _ _
      rw [HO.out] at hlm
      have HLM := Aside0.mk hlm
      have hl24 := HINV.out.len
      clear hse hlm
      go_wp2
      go_loopg [13, 14, 15, 16] l.length (fun kq v13 v14 _ _ w' => ∃ (i : Nat) (done : List Int) (s' : Sc) (M : List S77), i + kq = l.length ∧ M.length = kq ∧ v14 = .int .i64 (i : Int) ∧ Aside0 (done ++ (runN M.length s' M).1 = O.1 ∧ (runN M.length s' M).2 = O.2) ∧ Aside0 (∃ N, N + kq ≤ 30 ∧ Inv N s' M) ∧ Aside0 (∃ P Q, SepD w.heap.size P Q w' g (dn s') (M.map cv) v13 done) ∧ Aside0 (Below w.heap.size w w'))
      case atStart => exact ⟨0, [], allS p per f, L, by omega, by omega, rfl, ⟨by rw [HO.out]; rfl, by rw [HO.out]⟩, ⟨0, by omega, HINV.out⟩, HSE, HB2⟩
      case round =>
        obtain ⟨j, done, s', M, hj, hM, rfl, hP, hI, hS, hb⟩ := hrel
        clear HSE HB2
        obtain ⟨P9, Q9, hsep⟩ := hS.out
        have HSP := Aside0.mk hsep
        clear hsep
        cases gk with
        | zero =>
          have c1 : decide ((j : Int) < (l.length : Int)) = false := by simp; omega
          have c1b : decide (j < l.length) = false := by simp; omega
          obtain ⟨h1, h2⟩ := hP.out
          rw [hM] at h1 h2
          simp only [runN, List.append_nil] at h1 h2
          subst h1 h2
          obtain ⟨vv, hgv⟩ := HSP.out.arm.held.imp (fun _ h => h.1)
          have q4 : wr.cell? ⟨g, 4, none⟩ = some (.int .i64 O.2.mv) := (blk_cell hgv 4).trans rfl
          clear hgv
          go_wp2
          go_quiet (fail)
          go_wp2
          go_ret3
          rw [HR2.out]
          exact ⟨⟨_, rfl, Kd.R_mono (Kd.R_below HSP.out.row (pw_below_drewN (Below.refl _ _) nq)) (fun _ _ => trivial)⟩, pw_below_drewN hb.out nq⟩
        | succ k1 =>
          have c1 : decide ((j : Int) < (l.length : Int)) = true := by simp; omega
          have c1b : decide (j < l.length) = true := by simp; omega
          obtain ⟨h1, h2⟩ := hP.out
          obtain ⟨N, hN, hinv⟩ := hI.out
          have h0 : 0 < M.length := by omega
          rw [run_step hinv h0] at h1 h2
          have el : done.length < 1000 := by
            have := congrArg List.length h1
            rw [List.length_append] at this
            have h9 := HLM.out
            omega
          have EL := Aside0.mk el
          have hdl := dropA_len hinv h0
          have hnx := HNEXT.out N s' M g P9 wr hb.out HSP.out.arm hinv (by omega)
          have eo : outN s' M = ((pickA s' M).1.f0, true) := by unfold outN; rw [if_neg (by omega)]
          have es : stN s' M = nextA (s', M) := by unfold stN; rw [if_neg (by omega)]
          rw [eo, es] at hnx
          have hin : Aside0 (∃ N, N + k1 ≤ 30 ∧ Inv N (nextA (s', M)).1 (nextA (s', M)).2) := ⟨N + 1, by omega, by have := inv_stN hinv; rw [es] at this; exact this⟩
          have hp1 : Aside0 ((done ++ [(pickA s' M).1.f0]) ++ (runN (nextA (s', M)).2.length (nextA (s', M)).1 (nextA (s', M)).2).1 = O.1 ∧ (runN (nextA (s', M)).2.length (nextA (s', M)).1 (nextA (s', M)).2).2 = O.2) := ⟨by rw [← h1, List.append_assoc]; rfl, h2⟩
          have hml : Aside0 ((nextA (s', M)).2.length = k1) := ⟨by show (dropA M (pickA s' M).1.f0).length = k1; omega⟩
          have ew : Aside0 (wrap64 ((j : Int) + 1) = ((j + 1 : Nat) : Int)) := ⟨by unfold wrap64; omega⟩
          generalize (pickA s' M).1.f0 = x at *
          generalize (nextA (s', M)).1 = s9 at *
          generalize (nextA (s', M)).2 = M9 at *
          clear h1 h2 hinv h0 el hdl eo es hP hI hS
          go_upto_region 15 with (go_at_call 35; with_reducible refine hnx.mono ?_; rintro e w4 ⟨rfl, ⟨P4, h1, h4⟩, h2, h3⟩; have H1 := Aside0.mk h1; have H2 := Aside0.mk h2; have H3 := Aside0.mk h3; have H4 := Aside0.mk h4; clear h1 h2 h3 h4 hnx)
          obtain ⟨Q8, hs8⟩ := HSP.out.next H1.out H4.out H3.out
          have HS8 := Aside0.mk hs8
          have HRW := Aside0.mk hs8.row
          clear hs8 H1 H3 H4 HSP
          go_wp2_with (first | ((with_reducible refine gate_builtin (b := .append) (xs := #[.tmp 58, .tmp 60]) rfl ?_); at_builtin; refine Kd.R_append (Kd.int .i64) (w0 := w) w.heap.size rfl (.tmp 58) (.tmp 60) 23 3 (.int .i64 0) 8 rfl Try.underlying23 info3 rfl (by decide) (by omega) _ done x [.int .i64 x] (fun k => Q8 k ∨ w4.heap.size ≤ k) (fun _ => False) rfl rfl ?aP (fun _ hk => hk.elim) ?aF ?aO H2.out ?aS ?aL ?_; (case aP => exact rfl); (case aF => exact (fun _ hk => .inr hk)); (case aO => exact Kd.R_mono HRW.out (fun _ hk => .inl hk)); (case aS => exact H2.out.size); (case aL => have := EL.out; omega); intro v2 w9 ho hb9 hg hat; have HO9 := Aside0.mk ho; have HB9 := Aside0.mk hb9; have HG9 := Aside0.mk hg; clear ho hb9 hg hat))
          obtain ⟨P7, Q7, hs9⟩ := HS8.out.app HO9.out HG9.out
          have HS9 := Aside0.mk hs9
          clear hs9 HS8 HRW HO9 HG9
          go_roundg k1
          case rel => exact ⟨j + 1, done ++ [x], s9, M9, by omega, hml.out, by first | rfl | rw [ew.out], hp1, hin, ⟨_, _, HS9.out⟩, HB9⟩
          all_goals omega

end Go.Proofs.Ytfbjeiloefocgaa.CC
/-! Deeds played on both arms; what is live. -/
namespace Go.Proofs.Ytfbjeiloefocgaa.CC
open Go.RowKit Go.Proofs.Ytfbjeiloefocgaa.Fl Go.Proofs.Ytfbjeiloefocgaa.PL Go.Proofs.Ytfbjeiloefocgaa.PG Go.Proofs.YtfbjeiloefocgaaW.PrintWords Go.Proofs.YtfbjeiloefocgaaW.PrintLast Go.Proofs.YtfbjeiloefocgaaW.PrintMore
attribute [local go_sem] Oper.semAt_some

/-! #### struct type 58 -/
structure S58 where
  f0 : Int
  f1 : Int
  f2 : Int
def z58 : S58 := ⟨(0 : Int), (0 : Int), (0 : Int)⟩
def k58 : Kd S58 := Kd.iso (Kd.pair (Kd.int .i64) (Kd.pair (Kd.int .i64) (Kd.int .u8))) (fun x : S58 => (x.f0, x.f1, x.f2))
theorem k58_open {w : World} {x : S58} {cs : List Value} (h : k58.K w x cs) : cs = [.int .i64 x.f0, .int .i64 x.f1, .int .u8 x.f2] := by
  obtain ⟨_, _, rfl, rfl, _, _, rfl, rfl, rfl⟩ := h
  exact rfl
theorem at_58 {w : World} {A : Option Addr} {xs : List S58} (h : Kd.C k58 w A xs.length xs) (i : Nat) (h1 : i < xs.length) : ∃ ad, A = some ad ∧ w.cell? (ad.add (i * 3)) = some (.int .i64 xs[i].f0) ∧ w.cell? ⟨(ad.add (i * 3)).block, (ad.add (i * 3)).off + 1, none⟩ = some (.int .i64 xs[i].f1) ∧ w.cell? ⟨(ad.add (i * 3)).block, (ad.add (i * 3)).off + 2, none⟩ = some (.int .u8 xs[i].f2) := by
  obtain ⟨ad, c, e, _, hK, hc0⟩ := Kd.C_get h z58 (i : Int) (by omega) (by omega)
  have hc : ∀ j u, c[j]? = some u → w.cell? (ad.add (i * 3 + j)) = some u := by
    intro j u hj
    have := hc0 j u hj
    rw [Int.toNat_natCast] at this
    exact this
  have eg : xs.getD (i : Int).toNat z58 = xs[i] := by rw [Int.toNat_natCast, List.getD_eq_getElem?_getD, List.getElem?_eq_getElem h1, Option.getD_some]
  rw [eg] at hK
  obtain rfl := k58_open hK
  exact ⟨ad, e, hc 0 _ rfl, by rw [← add_field _ _ 1 (by omega)]; exact hc 1 _ rfl, by rw [← add_field _ _ 2 (by omega)]; exact hc 2 _ rfl⟩
/-- Some deeds, one behind the other. -/
def runL : List S58 → Sc × List S77 → Sc × List S77
  | [], st => st
  | x :: t, st => runL t (stepA st x.f0 x.f1 x.f2)
theorem runL_snoc : ∀ (l : List S58) (x : S58) (st : Sc × List S77), runL (l ++ [x]) st = stepA (runL l st) x.f0 x.f1 x.f2
  | [], _, _ => rfl
  | y :: t, x, st => by rw [List.cons_append, runL, runL, runL_snoc t]
theorem inv_run : ∀ (l : List S58) (k : Nat) (st : Sc × List S77), Inv k st.1 st.2 → Inv (k + l.length) (runL l st).1 (runL l st).2
  | [], _, _, h => h
  | x :: t, k, st, h => by
    rw [List.length_cons]
    have := inv_run t (k + 1) _ (inv_step h x.f0 x.f1 x.f2)
    rw [show k + 1 + t.length = k + (t.length + 1) by omega] at this
    exact this
/-- An arm behind some deeds. -/
def playL (p per : Int) (l : List S58) : Sc × List S77 := runL (l.take 80) (⟨p, per, 0, true, 0⟩, [])
theorem inv_play {p per : Int} (l : List S58) (h : okN p per) : Inv 80 (playL p per l).1 (playL p per l).2 := by
  have hl : (l.take 80).length ≤ 80 := by rw [List.length_take]; omega
  exact (inv_run (l.take 80) 0 (⟨p, per, 0, true, 0⟩, []) (inv_new p per h)).more (by omega)
set_option maxHeartbeats 2000000 in
set_option maxRecDepth 100000 in
theorem play_in (p per p1 per1 : Int) (hok : okN p1 per1) (e1 : (1 + p.tmod 4) % 256 = p1) (e2 : wrap64 ((wrap64 per).tmod 64 + 1) = per1) (A : Option Addr) (c : Nat) (l : List S58) (w : World) (hC : Kd.C k58 w A l.length l) :
    Calls Try.prog 18 #[.int .u8 p, .int .u8 per, .slice A l.length c] w fun e w' => (∃ gc gr, e = .returned (.tuple #[.pointer (some ⟨gc, 0, none⟩), .pointer (some ⟨gr, 0, none⟩), .bool true]) ∧ ∃ Pc Pr, Two w.heap.size Pc Pr w' gc gr (playL p1 per1 l).1 (playL p1 per1 l).2) ∧ Below w.heap.size w w' := by
  have HC := Aside0.mk hC
  have HM := Aside0.mk hok
  have E1 := Aside0.mk e1
  have E2 := Aside0.mk e2
  have hnew := fun W => New_ok p1 per1 hok W
  have hnewR := fun W => NewD_ok p1 per1 hok W
  clear hC hok e1 e2
  go_enter Try.func18, Try.ntmps18
  go_upto_region 3 with (first | (simp only [E1.out, E2.out]; go_at_call 32; with_reducible refine (hnew _).mono ?_; rintro e w1 ⟨⟨gc, rfl, hc1⟩, hb1⟩; have HC1 := Aside0.mk hc1; have HB1 := Aside0.mk hb1; clear hc1 hb1) | (simp only [E1.out, E2.out]; go_at_call 33; with_reducible refine (hnewR _).mono ?_; rintro e w2 ⟨⟨gr, rfl, hr2⟩, hb2⟩; have HR2 := Aside0.mk hr2; have HB2 := Aside0.mk hb2; clear hr2 hb2))
  have hT0 : Two w.heap.size (fun k => w.heap.size ≤ k ∧ k < w1.heap.size) (fun k => w1.heap.size ≤ k) w2 gc gr ⟨p1, per1, 0, true, 0⟩ [] :=
    ⟨(HC1.out.bound).below HB2.out, (show DS w1.heap.size _ w2 gr (dn ⟨p1, per1, 0, true, 0⟩) (([] : List S77).map cv) from HR2.out).lower HB1.out.size, fun k h1 h2 => by have := h1.2; omega⟩
  have HT0 := Aside0.mk hT0
  have HBW := Aside0.mk (below_step HB1.out HB2.out)
  clear hT0 HC1 HR2 HB1 HB2 hnew hnewR E1 E2
  obtain ⟨st, hst⟩ : ∃ st : Sc × List S77, st = (⟨p1, per1, 0, true, 0⟩, []) := ⟨_, rfl⟩
  have HST0 : Aside0 (Inv 0 st.1 st.2) := ⟨by rw [hst]; exact inv_new p1 per1 HM.out⟩
  have HPL : Aside0 (playL p1 per1 l = runL (l.take 80) st) := ⟨by rw [hst]; rfl⟩
  have HT0 : Aside0 (∃ Pc Pr, Two w.heap.size Pc Pr w2 gc gr (runL (l.take 0) st).1 (runL (l.take 0) st).2) := ⟨_, _, by rw [hst]; exact HT0.out⟩
  have htk : ∀ i, i < min l.length 80 → (hlt : i < l.length) → runL (l.take (i + 1)) st = stepA (runL (l.take i) st) l[i].f0 l[i].f1 l[i].f2 := fun i _ hlt => by
    rw [List.take_succ_eq_append_getElem hlt, runL_snoc]
  have HTK := Aside0.mk htk
  clear htk hst
  go_wp2
  go_loopg [11] (min l.length 80) (fun kq v11 w' => ∃ i : Nat, i + kq = min l.length 80 ∧ v11 = .int .i64 (i : Int) ∧ Aside0 (∃ Pc Pr, Two w.heap.size Pc Pr w' gc gr (runL (l.take i) st).1 (runL (l.take i) st).2) ∧ Aside0 (Below w.heap.size w w'))
  case atStart => exact ⟨0, by omega, rfl, HT0, HBW⟩
  case round =>
    obtain ⟨i, hi, rfl, hT, hb⟩ := hrel
    clear HT0 HBW
    cases gk with
    | succ k1 =>
      have hlt : i < l.length := by omega
      have hi80 : i < 80 := by omega
      have d1 : decide ((i : Int) < (l.length : Int)) = true := by simp; omega
      have d2 : decide ((i : Int) < 80) = true := by simp; omega
      have p1 : (0 ≤ (i : Int)) = True := eq_true (by omega)
      have p2 : ((i : Int) < (l.length : Int)) = True := eq_true (by omega)
      obtain ⟨ad, ea, x0, x1, x2⟩ := at_58 (Kd.C_below HC.out hb.out) i hlt
      cases ea
      have hstep := HTK.out i (by omega) hlt
      obtain ⟨x, hx⟩ : ∃ x, l[i] = x := ⟨_, rfl⟩
      rw [hx] at x0 x1 x2 hstep
      have HST := Aside0.mk hstep
      have hdo : Calls Try.prog 26 #[.pointer (some ⟨gc, 0, none⟩), .pointer (some ⟨gr, 0, none⟩), .agg #[.int .i64 x.f0, .int .i64 x.f1, .int .u8 x.f2]] wr fun e w' => e = .returned (.bool true) ∧ Aside0 ((∃ Pc Pr, Two w.heap.size Pc Pr w' gc gr (runL (l.take (i + 1)) st).1 (runL (l.take (i + 1)) st).2) ∧ Below w.heap.size w w') := by
        obtain ⟨Pc, Pr, hTT⟩ := hT.out
        have hinv := inv_run (l.take i) 0 st HST0.out
        refine (do_calls x.f0 Pc Pr gc gr _ _ x.f1 x.f2 w wr hb.out hTT hinv (by rw [List.length_take]; omega)).mono ?_
        rintro e w' ⟨rfl, ⟨Pc', Pr', h1, -, -⟩, h2, -⟩
        exact ⟨rfl, ⟨⟨Pc', Pr', by rw [HST.out]; exact h1⟩, h2⟩⟩
      have ew : Aside0 (wrap64 ((i : Int) + 1) = ((i + 1 : Nat) : Int)) := ⟨by unfold wrap64; omega⟩
      clear hx hstep
      go_wp2_with (go_at_call 26; with_reducible refine hdo.mono ?_; rintro e w3 ⟨rfl, hd⟩)
      go_roundg k1
      case rel => exact ⟨i + 1, by omega, by first | rfl | rw [ew.out], ⟨hd.out.1⟩, ⟨hd.out.2⟩⟩
      all_goals omega
    | zero =>
      have hfin : runL (l.take i) st = playL p1 per1 l := by
        rw [HPL.out]
        congr 1
        obtain rfl : i = min l.length 80 := by omega
        by_cases h : l.length ≤ 80
        · rw [Nat.min_eq_left h, List.take_length, List.take_of_length_le h]
        · rw [Nat.min_eq_right (by omega)]
      have HF := Aside0.mk hfin
      clear hfin
      by_cases h80 : i < l.length
      · have d1 : decide ((i : Int) < (l.length : Int)) = true := by simp; omega
        have d2 : decide ((i : Int) < 80) = false := by simp; omega
        go_wp2
        go_ret3
        obtain ⟨Pc, Pr, h⟩ := hT.out
        exact ⟨⟨gc, gr, rfl, Pc, Pr, by rw [← HF.out]; exact h⟩, hb.out⟩
      · have d1 : decide ((i : Int) < (l.length : Int)) = false := by simp; omega
        have d1b : decide (i < l.length) = false := by simp; omega
        go_wp2
        go_ret3
        obtain ⟨Pc, Pr, h⟩ := hT.out
        exact ⟨⟨gc, gr, rfl, Pc, Pr, by rw [← HF.out]; exact h⟩, hb.out⟩
theorem play_calls (p per : Int) (hp : 0 ≤ p ∧ p < 256) (hper : 0 ≤ per ∧ per < 256) (A : Option Addr) (c : Nat) (l : List S58) (w : World) (hC : Kd.C k58 w A l.length l) :
    Calls Try.prog 18 #[.int .u8 p, .int .u8 per, .slice A l.length c] w fun e w' => (∃ gc gr, e = .returned (.tuple #[.pointer (some ⟨gc, 0, none⟩), .pointer (some ⟨gr, 0, none⟩), .bool true]) ∧ ∃ Pc Pr, Two w.heap.size Pc Pr w' gc gr (playL (p % 4 + 1) (per % 64 + 1) l).1 (playL (p % 4 + 1) (per % 64 + 1) l).2) ∧ Below w.heap.size w w' := by
  refine play_in p per (p % 4 + 1) (per % 64 + 1) ⟨by omega, by omega, by omega, by omega⟩ ?_ ?_ A c l w hC
  · rw [Int.tmod_eq_emod_of_nonneg hp.1]; omega
  · rw [show wrap64 per = per by unfold wrap64; omega, Int.tmod_eq_emod_of_nonneg hper.1]; unfold wrap64; omega
theorem okP (p per : Int) : okN (p % 4 + 1) (per % 64 + 1) := ⟨by omega, by omega, by omega, by omega⟩
theorem few_calls (A : Option Addr) (c : Nat) (l : List Int) (w : World) (hc : l.length ≤ c) (_hC : Kd.C (Kd.int .i64) w A l.length l) (hl : l.length < 9223372036854775808) : Calls Try.prog 12 #[.slice A l.length c] w fun e w' => e = .returned (.slice A (l.take 30).length c) ∧ w' = w := by
  by_cases h : 30 < l.length
  · have d1 : decide (30 < (l.length : Int)) = true := by simp; omega
    have e : (l.take 30).length = 30 := by rw [List.length_take]; omega
    have p1 : ((30 : Int) ≤ (c : Int)) = True := eq_true (by omega)
    rw [e]
    clear _hC e
    go_enter Try.func12, Try.ntmps12
    go_wp2
    go_ret
    exact ⟨rfl, rfl⟩
  · have d1 : decide (30 < (l.length : Int)) = false := by simp; omega
    have d1b : decide (30 < l.length) = false := by simp; omega
    have e : (l.take 30).length = l.length := by rw [List.length_take]; omega
    rw [e]
    clear _hC e
    go_enter Try.func12, Try.ntmps12
    go_wp2
    go_ret
    exact ⟨rfl, rfl⟩
theorem few_C {A : Option Addr} {l : List Int} {w : World} (hC : Kd.C (Kd.int .i64) w A l.length l) : Kd.C (Kd.int .i64) w A (l.take 30).length (l.take 30) := by
  have h0 := Kd.C_take hC (show min 30 l.length ≤ l.length by omega)
  rw [show l.take (min 30 l.length) = l.take 30 by rw [List.take_eq_take_iff]; omega] at h0
  rw [show (l.take 30).length = min 30 l.length by rw [List.length_take]] at h0 ⊢
  exact h0
theorem All_calls (p per f : Int) (A0 : Option Addr) (c0 : Nat) (l : List Int) (w : World) (hC : Kd.C (Kd.int .i64) w A0 l.length l) (hl : l.length < 1000) : Calls Try.prog 11 #[.int .u8 p, .int .i64 per, .int .i64 f, .slice A0 l.length c0] w fun e w' => (∃ v, e = .returned (.tuple #[v, .int .i64 (allA p per f l).2.1, .int .i64 (allA p per f l).2.2]) ∧ Kd.R (Kd.int .i64) 3 w' w.heap.size (fun _ => True) v (allA p per f l).1) ∧ Below w.heap.size w w' := by
  by_cases h : okAll p per f
  · exact All_ok p per f A0 c0 l w hC hl h
  · exact All_bad p per f A0 c0 l w hC hl h
theorem AllD_calls (p per f : Int) (A0 : Option Addr) (c0 : Nat) (l : List Int) (w : World) (hC : Kd.C (Kd.int .i64) w A0 l.length l) (hl : l.length < 1000) : Calls Try.prog 13 #[.int .u8 p, .int .i64 per, .int .i64 f, .slice A0 l.length c0] w fun e w' => (∃ v, e = .returned (.tuple #[v, .int .i64 (allA p per f l).2.1, .int .i64 (allA p per f l).2.2]) ∧ Kd.R (Kd.int .i64) 3 w' w.heap.size (fun _ => True) v (allA p per f l).1) ∧ Below w.heap.size w w' := by
  by_cases h : okAll p per f
  · exact AllD_ok p per f A0 c0 l w hC hl h
  · exact AllD_bad p per f A0 c0 l w hC hl h
theorem all_live : allA 2 1 5 [9, 2, 7] = ([7, 9, 2], 11, 0) := by decide +kernel
theorem all3_calls (A1 : Option Addr) (c1 : Nat) (w1 : World) (hC : Kd.C (Kd.int .i64) w1 A1 ([9, 2, 7] : List Int).length [9, 2, 7]) : Calls Try.prog 11 #[.int .u8 2, .int .i64 1, .int .i64 5, .slice A1 3 c1] w1 fun e w' => (∃ v, e = .returned (.tuple #[v, .int .i64 11, .int .i64 0]) ∧ Kd.R (Kd.int .i64) 3 w' w1.heap.size (fun _ => True) v [7, 9, 2]) ∧ Below w1.heap.size w1 w' := by
  have h := All_calls 2 1 5 A1 c1 [9, 2, 7] w1 hC (by decide)
  rw [all_live] at h
  exact h
set_option maxHeartbeats 2000000 in
theorem live_calls (w : World) : Calls Try.prog 14 #[] w fun e w' => e = .returned (.bool true) ∧ Below w.heap.size w w' := by
  go_enter Try.func14, Try.ntmps14
  go_upto_region 2 with (first | ((with_reducible refine gate_dst (N := 5) rfl ?_); refine Kd.R_lit (Kd.int .i64) (w0 := w) w.heap.size 3 ?hg (N := 5) ?hd (xs := ([9, 2, 7] : List Int)) (inner := [.int .i64 9, .int .i64 2, .int .i64 7]) (ok := fun _ => True) (okp := fun _ => True) ?hr ?hp (fun _ hk => hk) trivial (Below.refl _ _) (Nat.le_refl _) (by simp) ?_; (case hd => rfl); (case hg => rfl); (case hr => first | (go_simp; done) | (go_simp; rfl)); (case hp => exact (Reps.one (show Kd.M (Kd.int .i64) _ _ _ (9 : Int) [.int .i64 (9 : Int)] from rfl) (Reps.one (show Kd.M (Kd.int .i64) _ _ _ (2 : Int) [.int .i64 (2 : Int)] from rfl) (Reps.one (show Kd.M (Kd.int .i64) _ _ _ (7 : Int) [.int .i64 (7 : Int)] from rfl) (Reps.none _ _))))); intro v1 w1 ho hb hg_ hnew_; clear hg_ hnew_; have HB1 := Aside0.mk hb; obtain ⟨A1, c1, e1⟩ := Kd.R_slice ho; subst e1; have HO1 := Aside0.mk ho; clear ho hb) | (go_at_call 11; with_reducible refine (all3_calls A1 c1 w1 (Kd.R_reads' HO1.out).2.2).mono ?_; rintro e w2 ⟨⟨v2, rfl, ho2⟩, hb2⟩; obtain ⟨A2, c2, e2⟩ := Kd.R_slice ho2; subst e2; have HO2 := Aside0.mk ho2; have HB2 := Aside0.mk (below_step HB1.out hb2); clear ho2 hb2))
  have hC := (Kd.R_reads' HO2.out).2.2
  obtain ⟨ad, ea, x0⟩ := Kd.at_int hC 0 (by decide) (by decide)
  cases ea
  obtain ⟨ad, ea, x1⟩ := Kd.at_int hC 1 (by decide) (by decide)
  cases ea
  obtain ⟨ad, ea, x2⟩ := Kd.at_int hC 2 (by decide) (by decide)
  cases ea
  rw [show rd [7, 9, 2] 0 = 7 from rfl] at x0
  rw [show rd [7, 9, 2] 1 = 9 from rfl] at x1
  rw [show rd [7, 9, 2] 2 = 2 from rfl] at x2
  replace x0 : w2.cell? ad = some (.int .i64 7) := x0
  replace x1 : w2.cell? ⟨ad.block, ad.off + 1, none⟩ = some (.int .i64 9) := x1
  replace x2 : w2.cell? ⟨ad.block, ad.off + 2, none⟩ = some (.int .i64 2) := x2
  clear hC HO1 HO2
  go_wp2
  go_ret
  exact ⟨rfl, HB2.out⟩
end Go.Proofs.Ytfbjeiloefocgaa.CC
