import Derived.Test.YtehjmmedghcndaaCK
/-! A group's bytes, in plain Lean: what is read of what was written is it. -/
namespace Go.Proofs.Ytehjmmedghcndaa.PG
open Go.RowKit Go.Proofs.YtehjmmedghcndaaW.PrintWords Go.Proofs.YtehjmmedghcndaaW.PrintLast Go.Proofs.YtehjmmedghcndaaW.PrintMore
theorem pw_ext : ∀ (l m : List Int), l.Pairwise (· < ·) → m.Pairwise (· < ·) → (∀ x, x ∈ l ↔ x ∈ m) → l = m
 | [], [], _, _, _ => rfl
 | [], y :: s, _, _, h => by have := (h y).2 (List.mem_cons_self ..); cases this
 | x :: t, [], _, _, h => by have := (h x).1 (List.mem_cons_self ..); cases this
 | x :: t, y :: s, hl, hm, h => by
  obtain ⟨l1, l2⟩ := List.pairwise_cons.1 hl
  obtain ⟨m1, m2⟩ := List.pairwise_cons.1 hm
  have e : x = y := by
   rcases List.mem_cons.1 ((h x).1 (List.mem_cons_self ..)) with e | hx
   ·exact e
   ·rcases List.mem_cons.1 ((h y).2 (List.mem_cons_self ..)) with e | hy
    ·exact e.symm
    ·have := m1 x hx
     have := l1 y hy
     omega
  subst e
  rw [pw_ext t s l2 m2 (fun z => ⟨fun hz => by
   rcases List.mem_cons.1 ((h z).1 (List.mem_cons_of_mem _ hz)) with e | hz'
   ·have := l1 z hz
    omega
   ·exact hz', fun hz => by
   rcases List.mem_cons.1 ((h z).2 (List.mem_cons_of_mem _ hz)) with e | hz'
   ·have := m1 z hz
    omega
   ·exact hz'⟩)]
theorem rise_pw : ∀ (l : List Int) (a z : Int), Bt.Rise a z l → l.Pairwise (· < ·)
 | [], _, _, _ => List.Pairwise.nil
 | x :: t, a, z, h => by
  obtain ⟨h1, h2, h3⟩ := h
  exact List.pairwise_cons.2 ⟨fun y hy => by have := (Bt.Rise.mem h3 y hy).1; omega, rise_pw t _ _ h3⟩
/-- The numbers of the bits of some numbers are these. -/
theorem bits_make {n : Nat} (hn : n ≤ 64) {l : List Int} {b : Int} (h : rise2 (-1) l b = true) (hb : b ≤ 8 * (n : Int)) (hl : l.length ≤ 1000) : bitsOf (makeB n l) = l := by
 obtain ⟨_, _, _, h4⟩ := make_ok hn h hb hl
 refine pw_ext _ _ (rise_pw _ _ _ (Bt.bitsOf_rise _)) (upB_pairwise (rise2_all h).2) (fun x => ?_)
 rw [Bt.mem_bitsOf, h4 x]
 simp
theorem sumN_bd (H : List Int) : ∀ k, 0 ≤ sumN H k ∧ sumN H k < 256
 | 0 => ⟨Int.le_refl _, by show (0 : Int) < 256; decide⟩
 | k + 1 => by
  by_cases h : k < H.length
  ·rw [sumN_succ H k h]; omega
  ·have e : sumN H (k + 1) = sumN H k := by
    unfold sumN
    rw [List.take_of_length_le (by omega), List.take_of_length_le (by omega)]
   rw [e]; exact sumN_bd H k
theorem enc_fact {c : S42} (hs : SmallC c) (hr : rightB c = true) : (makeB 8 c.f5).length = 8 ∧ (makeB 2 c.f6).length = 2 ∧ Bt.Bytes (makeB 8 c.f5) ∧ Bt.Bytes (makeB 2 c.f6) ∧ bitsOf (makeB 8 c.f5) = c.f5 ∧ bitsOf (makeB 2 c.f6) = c.f6 := by
 have hp := (right_iff c).1 hr
 obtain ⟨_, l1, b1, _⟩ := make_ok (n := 8) (by decide) hp.u (by have := hp.b1; omega) hs.1
 obtain ⟨_, l2, b2, _⟩ := make_ok (n := 2) (by decide) hp.n (by decide) hs.2
 exact ⟨l1, l2, b1, b2, bits_make (by decide) hp.u (by have := hp.b1; omega) hs.1, bits_make (by decide) hp.n (by decide) hs.2⟩
theorem enc_bytes {c : S42} (hs : SmallC c) (hr : rightB c = true) : Bt.Bytes (encB c) := by
 obtain ⟨l1, l2, b1, b2, _⟩ := enc_fact hs hr
 intro x hx
 unfold encB hdr at hx
 rcases List.mem_or_eq_of_mem_set hx with hx | rfl
 ·unfold h2 at hx
  rcases List.mem_append.1 hx with hx | hx
  ·rcases List.mem_append.1 hx with hx | hx
   ·rcases List.mem_append.1 hx with hx | hx
    ·simp only [List.mem_cons, List.not_mem_nil, or_false] at hx
     omega
    ·exact b1 x hx
   ·exact b2 x hx
  ·rw [(List.mem_replicate.1 hx).2]; omega
 ·exact sumN_bd _ _
theorem dec_ok {l : List Int} (h : (decS l).2 = 0) : l.length = 32 ∧ rightB (decS l).1 = true ∧ encB (decS l).1 = l ∧ SmallC (decS l).1 := by
 unfold decS at h ⊢
 by_cases hc : l.length = 32 ∧ rightB (decC l) = true ∧ encB (decC l) = l
 ·rw [if_pos hc]
  exact ⟨hc.1, hc.2.1, hc.2.2, decC_small⟩
 ·rw [if_neg hc] at h
  cases h
theorem dec_no {l : List Int} (h : (decS l).2 ≠ 0) : decS l = (⟨0, 0, 0, 0, 0, [], []⟩, 3) := by
 unfold decS at h ⊢
 by_cases hc : l.length = 32 ∧ rightB (decC l) = true ∧ encB (decC l) = l
 ·rw [if_pos hc] at h
  exact absurd rfl h
 ·rw [if_neg hc]
end Go.Proofs.Ytehjmmedghcndaa.PG
