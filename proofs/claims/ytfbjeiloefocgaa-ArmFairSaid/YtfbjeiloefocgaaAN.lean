import Derived.Test.YtfbjeiloefocgaaYD
/-! Plain laws: none waits too long. -/
namespace Go.Proofs.Ytfbjeiloefocgaa.CC
open Go.RowKit Go.Proofs.Ytfbjeiloefocgaa.Fl Go.Proofs.Ytfbjeiloefocgaa.PL Go.Proofs.Ytfbjeiloefocgaa.PG Go.Proofs.YtfbjeiloefocgaaW.PrintWords Go.Proofs.YtfbjeiloefocgaaW.PrintLast Go.Proofs.YtfbjeiloefocgaaW.PrintMore
/-- What was asked for first is as old, or older. -/
def Srt (L : List S77) : Prop := L.Pairwise (fun x y => y.f1 ≤ x.f1)
theorem srt_ask {N : Nat} {s : Sc} {L : List S77} (hi : Inv N s L) (h : Srt L) (b : Int) : Srt (askA L b).2 := by
  unfold askA
  by_cases h1 : b < 0 ∨ 1024 ≤ b
  · rw [if_pos h1]; exact h
  · rw [if_neg h1]
    by_cases h2 : 0 ≤ ix77 L b
    · rw [if_pos h2]; exact h
    · rw [if_neg h2]
      by_cases h3 : L.length = 24
      · rw [if_pos h3]; exact h
      · rw [if_neg h3]
        show Srt (L ++ [⟨b, 0⟩])
        unfold Srt
        rw [List.pairwise_append]
        refine ⟨h, List.pairwise_singleton .., fun x hx y hy => ?_⟩
        obtain rfl := List.mem_singleton.1 hy
        exact (hi.age x hx).1
theorem srt_cancel {L : List S77} (h : Srt L) (b : Int) : Srt (cancelA L b).2 := List.Pairwise.sublist (cancel_sub L b) h
theorem srt_drop {L : List S77} (h : Srt L) (b : Int) : Srt (dropA L b) := by
  unfold dropA Srt
  rw [List.pairwise_map]
  exact (srt_cancel h b).imp (fun hxy => by show _ + 1 ≤ _ + 1; omega)
theorem srt_step {N : Nat} {st : Sc × List S77} (hi : Inv N st.1 st.2) (h : Srt st.2) (kind n p : Int) : Srt (stepA st kind n p).2 := by
  unfold stepA
  by_cases h0 : kind = 0
  · rw [if_pos h0]; exact srt_ask hi h n
  · rw [if_neg h0]
    by_cases h1 : kind = 1
    · rw [if_pos h1]; exact srt_cancel h n
    · rw [if_neg h1]
      by_cases h2 : kind = 2
      · rw [if_pos h2]
        by_cases h4 : st.2.length = 0
        · rw [if_pos h4]; exact h
        · rw [if_neg h4]; exact srt_drop h _
      · rw [if_neg h2]
        by_cases h3 : kind = 3
        · rw [if_pos h3]; exact h
        · rw [if_neg h3]; exact h
theorem srt_run : ∀ (l : List S58) (k : Nat) (st : Sc × List S77), Inv k st.1 st.2 → Srt st.2 → Srt (runL l st).2
  | [], _, _, _, h => h
  | x :: t, k, st, hi, h => srt_run t (k + 1) _ (inv_step hi x.f0 x.f1 x.f2) (srt_step hi h x.f0 x.f1 x.f2)
theorem srt_play {p per : Int} (l : List S58) (h : okN p per) : Srt (playL p per l).2 := srt_run (l.take 80) 0 (⟨p, per, 0, true, 0⟩, []) (inv_new p per h) List.Pairwise.nil
/-- A block is asked for, and its age and its place are not too great. -/
def Fr (b : Int) (L : List S77) : Prop := ∃ i, ∃ h : i < L.length, L[i].f0 = b ∧ (12 ≤ L[i].f1 → L[i].f1 + i ≤ 35)
theorem fr_new {L : List S77} {b : Int} (h : (askA L b).1 = 0) : Fr b (askA L b).2 := by
  unfold askA at h ⊢
  by_cases h1 : b < 0 ∨ 1024 ≤ b
  · rw [if_pos h1] at h; exact absurd h (by simp)
  · rw [if_neg h1] at h ⊢
    by_cases h2 : 0 ≤ ix77 L b
    · rw [if_pos h2] at h; exact absurd h (by simp)
    · rw [if_neg h2] at h ⊢
      by_cases h3 : L.length = 24
      · rw [if_pos h3] at h; exact absurd h (by simp)
      · rw [if_neg h3]
        refine ⟨L.length, by simp, by simp, ?_⟩
        simp
theorem fr_app {L : List S77} {b : Int} {x : S77} (h : Fr b L) : Fr b (L ++ [x]) := by
  obtain ⟨i, hi, h1, h2⟩ := h
  refine ⟨i, by simp; omega, ?_, ?_⟩
  · rw [List.getElem_append_left hi]; exact h1
  · rw [List.getElem_append_left hi]; exact h2
theorem fr_ask {L : List S77} {b : Int} (h : Fr b L) (n : Int) : Fr b (askA L n).2 := by
  unfold askA
  by_cases h1 : n < 0 ∨ 1024 ≤ n
  · rw [if_pos h1]; exact h
  · rw [if_neg h1]
    by_cases h2 : 0 ≤ ix77 L n
    · rw [if_pos h2]; exact h
    · rw [if_neg h2]
      by_cases h3 : L.length = 24
      · rw [if_pos h3]; exact h
      · rw [if_neg h3]; exact fr_app h
theorem old_zero {L : List S77} (h0 : 0 < L.length) (h : 12 ≤ L[0].f1) : oldix L = 0 := by
  have := oldix_hit (l := L) (i := 0) h0 (by unfold oldB; exact decide_eq_true h) (by simp)
  simpa using this
theorem fr_next {N : Nat} {s : Sc} {L : List S77} {b : Int} (hi : Inv N s L) (hs : Srt L) (h : Fr b L) : (pickA s L).1.f0 = b ∨ Fr b (dropA L (pickA s L).1.f0) := by
  obtain ⟨i, hil, hb, ht⟩ := h
  have h0 : 0 < L.length := by omega
  have hlen := hi.len
  obtain ⟨n, hn, hpk, hz⟩ : ∃ n, ∃ hn : n < L.length, (pickA s L).1 = L[n] ∧ (12 ≤ L[i].f1 → n = 0) := by
    by_cases h12 : 12 ≤ L[i].f1
    · have hh : 12 ≤ L[0].f1 := by
        by_cases hi0 : i = 0
        · subst hi0; exact h12
        · have := List.pairwise_iff_getElem.1 hs 0 i h0 hil (by omega)
          omega
      refine ⟨0, h0, ?_, fun _ => rfl⟩
      rw [pick_old (n := 0) (old_zero h0 hh), getD77 _ _ h0]
    · obtain ⟨n, hn, e⟩ := List.mem_iff_getElem.1 (pick_mem (s := s) h0)
      exact ⟨n, hn, e.symm, fun h => absurd h h12⟩
  by_cases hni : n = i
  · left
    rw [hpk]
    subst hni
    exact hb
  · right
    rw [hpk, drop_nd hi.nd hn]
    have hel : ((L.eraseIdx n).map older).length = L.length - 1 := by rw [List.length_map, List.length_eraseIdx, if_pos hn]
    have hage := (hi.age L[i] (List.getElem_mem hil)).1
    by_cases hlt : n < i
    · have e : ((L.eraseIdx n).map older)[i - 1]'(by rw [hel]; omega) = older L[i] := by
        rw [List.getElem_map, List.getElem_eraseIdx, dif_neg (by omega)]
        congr 2
        omega
      refine ⟨i - 1, by rw [hel]; omega, ?_, ?_⟩
      · rw [e]; exact hb
      · rw [e]
        show 12 ≤ L[i].f1 + 1 → L[i].f1 + 1 + ((i - 1 : Nat) : Int) ≤ 35
        intro h
        by_cases h12 : 12 ≤ L[i].f1
        · have := ht h12; omega
        · omega
    · have e : ((L.eraseIdx n).map older)[i]'(by rw [hel]; omega) = older L[i] := by
        rw [List.getElem_map, List.getElem_eraseIdx, dif_pos (by omega)]
      refine ⟨i, by rw [hel]; omega, ?_, ?_⟩
      · rw [e]; exact hb
      · rw [e]
        show 12 ≤ L[i].f1 + 1 → L[i].f1 + 1 + (i : Int) ≤ 35
        intro h
        by_cases h12 : 12 ≤ L[i].f1
        · have := hz h12; omega
        · omega
theorem fr_age {N : Nat} {s : Sc} {L : List S77} {b : Int} (hi : Inv N s L) (h : Fr b L) : 0 ≤ ageA L b ∧ ageA L b ≤ 36 := by
  obtain ⟨i, hil, hb, ht⟩ := h
  have hx := ix_nd hi.nd hil
  rw [hb] at hx
  unfold ageA
  rw [hx, if_neg (by omega), Int.toNat_natCast, getD77 _ _ hil]
  have hage := (hi.age L[i] (List.getElem_mem hil)).1
  exact ⟨hage, by by_cases h12 : 12 ≤ L[i].f1
                  · have := ht h12; omega
                  · omega⟩
theorem fr_pos {b : Int} {L : List S77} (h : Fr b L) : 0 < L.length := by
  obtain ⟨i, hil, -⟩ := h
  omega
/-- What is answered when a block is not asked for anew. -/
theorem ask_err {N : Nat} {s : Sc} {L : List S77} {b : Int} (hi : Inv N s L) (hb : 0 ≤ b ∧ b < 1024) (h : (askA L b).1 ≠ 0) : (askA L b).2 = L ∧ ((askA L b).1 = 6 ∧ 0 ≤ ageA L b ∨ (askA L b).1 = 11 ∧ L.length = 24) := by
  unfold askA at h ⊢
  rw [if_neg (by omega)] at h ⊢
  by_cases h2 : 0 ≤ ix77 L b
  · rw [if_pos h2]
    refine ⟨rfl, .inl ⟨rfl, ?_⟩⟩
    unfold ageA
    rw [if_neg (by omega)]
    have hr := ix77_range L b
    rw [getD77 _ _ (by omega)]
    exact (hi.age _ (List.getElem_mem _)).1
  · rw [if_neg h2] at h ⊢
    by_cases h3 : L.length = 24
    · rw [if_pos h3]; exact ⟨rfl, .inr ⟨rfl, h3⟩⟩
    · rw [if_neg h3] at h; exact absurd rfl h
end Go.Proofs.Ytfbjeiloefocgaa.CC
