import Derived.Test.YteodjknknpdmeaaB1
/-! Plain laws of the bits of bytes, 3: the first one that is not set. -/
namespace Go.Proofs.Yteodjknknpdmeaa.Pure
open Go.RowKit
open Go.Proofs.Yteodjknknpdmeaa.PG Go.Proofs.YteodjknknpdmeaaW.PrintWords Go.Proofs.YteodjknknpdmeaaW.PrintLast Go.Proofs.YteodjknknpdmeaaW.PrintMore
/-- What First answers. -/
def IsFirst (l : List Int) (a z : Int) (r : Int × Bool) : Prop :=
  (r.2 = true ∧ a ≤ r.1 ∧ 0 ≤ r.1 ∧ r.1 < z ∧ r.1 < 8 * (l.length : Int) ∧ bitI l r.1 = false ∧ ∀ j, a ≤ j → 0 ≤ j → j < r.1 → bitI l j = true) ∨
  (r = (0, false) ∧ ∀ j, a ≤ j → 0 ≤ j → j < z → j < 8 * (l.length : Int) → bitI l j = true)
theorem IsFirst.eq {l : List Int} {a z : Int} {r q : Int × Bool} (h : IsFirst l a z r) (h' : IsFirst l a z q) : r = q := by
  rcases h with ⟨r2, ra, r0, rz, rn, rb, rm⟩ | ⟨rfl, rm⟩
  · rcases h' with ⟨q2, qa, q0, qz, qn, qb, qm⟩ | ⟨rfl, qm⟩
    · rcases Int.lt_trichotomy r.1 q.1 with h | h | h
      · rw [qm r.1 ra r0 h] at rb; exact absurd rb (by simp)
      · exact Prod.ext h (by rw [r2, q2])
      · rw [rm q.1 qa q0 h] at qb; exact absurd qb (by simp)
    · rw [qm r.1 ra r0 rz rn] at rb; exact absurd rb (by simp)
  · rcases h' with ⟨q2, qa, q0, qz, qn, qb, qm⟩ | ⟨rfl, qm⟩
    · rw [rm q.1 qa q0 qz qn] at qb; exact absurd qb (by simp)
    · rfl
theorem first_l0 (l : List Int) (hl : Bytes l) (hn : l.length ≤ 80) (a z : Int) (d : Nat) : ∀ i : Int, 0 ≤ i → a ≤ i → i ≤ 9223372036854775807 → (8 * (l.length : Int) - i).toNat = d → (∀ j, a ≤ j → 0 ≤ j → j < i → bitI l j = true) →
    ∃ r, IsFirst l a z r ∧ Ev (fun k => bitset_First.l0 k l z i) r := by
  induction d with
  | zero =>
    intro i h0 ha hi hd hm
    refine ⟨(0, false), .inr ⟨rfl, fun j h1 h2 h3 h4 => hm j h1 h2 (by omega)⟩, ?_⟩
    refine Ev.step (f := fun k => bitset_First.j1 k l z i false) (fun k => ?_) (Ev.step (f := fun _ => some (0, false)) (fun k => by simp [bitset_First.j1]) (Ev.now _))
    simp only [bitset_First.l0]
    rw [wrapI (by omega), show decide (i < 8 * (l.length : Int)) = false by simp; omega]
    simp
  | succ d ih =>
    intro i h0 ha hi hd hm
    by_cases hz : i < z
    · have hg := get_is l i hl hi
      cases hb : bitI l i with
      | true =>
        obtain ⟨r, hr, hev⟩ := ih (i + 1) (by omega) (by omega) (by omega) (by omega) (fun j h1 h2 h3 => by
          by_cases hj : j = i
          · rw [hj]; exact hb
          · exact hm j h1 h2 (by omega))
        refine ⟨r, hr, Ev.step (f := fun k => bitset_First.j1 k l z i true) (fun k => ?_) (Ev.step (f := fun k => bitset_First.l0 k l z (i + 1)) (fun k => ?_) hev)⟩
        · simp only [bitset_First.l0]
          rw [wrapI (by omega), show decide (i < 8 * (l.length : Int)) = true by simp; omega, if_pos hz]
        · simp only [bitset_First.j1, hg, Option.bind_some, hb, if_true]
          rw [wrapI (by omega)]
      | false =>
        refine ⟨(i, true), .inl ⟨rfl, ha, h0, hz, by omega, hb, hm⟩, ?_⟩
        refine Ev.step (f := fun k => bitset_First.j1 k l z i true) (fun k => ?_) (Ev.step (f := fun _ => some (i, true)) (fun k => ?_) (Ev.now _))
        · simp only [bitset_First.l0]
          rw [wrapI (by omega), show decide (i < 8 * (l.length : Int)) = true by simp; omega, if_pos hz]
        · simp [bitset_First.j1, hg, hb]
    · refine ⟨(0, false), .inr ⟨rfl, fun j h1 h2 h3 h4 => hm j h1 h2 (by omega)⟩, ?_⟩
      refine Ev.step (f := fun k => bitset_First.j1 k l z i false) (fun k => ?_) (Ev.step (f := fun _ => some (0, false)) (fun k => by simp [bitset_First.j1]) (Ev.now _))
      simp only [bitset_First.l0]
      rw [if_neg hz]
theorem first_is (l : List Int) (hl : Bytes l) (hn : l.length ≤ 80) (a z : Int) (ha : a ≤ 9223372036854775807) : ∃ r, IsFirst l a z r ∧ Ev (fun k => bitset_First.f k l a z) r := by
  obtain ⟨r, hr, hev⟩ := first_l0 l hl hn a z _ (mx a 0) (by unfold mx; omega) (by unfold mx; omega) (by unfold mx; omega) rfl (fun j h1 h2 h3 => by unfold mx at h3; omega)
  exact ⟨r, hr, hev⟩
theorem reffirst_l0 (l : List Int) (hl : Bytes l) (hn : l.length ≤ 80) (a z : Int) (d : Nat) : ∀ i : Nat, 8 * l.length - i = d → i ≤ 8 * l.length → (∀ j, a ≤ j → 0 ≤ j → j < (i : Int) → j < z → bitI l j = true) →
    ∃ r, IsFirst l a z r ∧ Ev (fun k => selvedgeref02_First.l0 k l a z (i : Int)) r := by
  induction d with
  | zero =>
    intro i hd hi hm
    refine ⟨(0, false), .inr ⟨rfl, fun j h1 h2 h3 h4 => hm j h1 h2 (by omega) h3⟩, ?_⟩
    refine Ev.step (f := fun _ => some (0, false)) (fun k => ?_) (Ev.now _)
    simp only [selvedgeref02_First.l0]
    rw [wrapI (by omega), if_neg (by omega)]
  | succ d ih =>
    intro i hd hi hm
    have hg := refget_is l (i : Int) hl (by omega)
    have next : (a ≤ (i : Int) → (i : Int) < z → bitI l (i : Int) = true) → ∃ r, IsFirst l a z r ∧ Ev (fun k => selvedgeref02_First.l0 k l a z ((i + 1 : Nat) : Int)) r := fun hb =>
      ih (i + 1) (by omega) (by omega) (fun j h1 h2 h3 h4 => by
        by_cases hj : j = (i : Int)
        · rw [hj]; exact hb (by omega) (by omega)
        · exact hm j h1 h2 (by omega) h4)
    have w : wrap64 ((i : Int) + 1) = ((i + 1 : Nat) : Int) := by rw [wrapI (by omega)]; omega
    by_cases h1 : (i : Int) ≥ a
    · by_cases h2 : (i : Int) < z
      · cases hb : bitI l (i : Int) with
        | true =>
          obtain ⟨r, hr, hev⟩ := next (fun _ _ => hb)
          refine ⟨r, hr, Ev.step (f := fun k => selvedgeref02_First.l0 k l a z ((i + 1 : Nat) : Int)) (fun k => ?_) hev⟩
          simp only [selvedgeref02_First.l0]
          rw [wrapI (by omega), if_pos (by omega), if_pos h1, if_pos h2, hg, w]
          simp [hb]
        | false =>
          refine ⟨((i : Int), true), .inl ⟨rfl, h1, by omega, h2, by omega, hb, fun j h3 h4 h5 => hm j h3 h4 h5 (by omega)⟩, ?_⟩
          refine Ev.step (f := fun _ => some ((i : Int), true)) (fun k => ?_) (Ev.now _)
          simp only [selvedgeref02_First.l0]
          rw [wrapI (by omega), if_pos (by omega), if_pos h1, if_pos h2, hg]
          simp [hb]
      · obtain ⟨r, hr, hev⟩ := next (fun _ h => absurd h h2)
        refine ⟨r, hr, Ev.step (f := fun k => selvedgeref02_First.l0 k l a z ((i + 1 : Nat) : Int)) (fun k => ?_) hev⟩
        simp only [selvedgeref02_First.l0]
        rw [wrapI (by omega), if_pos (by omega), if_pos h1, if_neg h2, w]
    · obtain ⟨r, hr, hev⟩ := next (fun h _ => absurd h h1)
      refine ⟨r, hr, Ev.step (f := fun k => selvedgeref02_First.l0 k l a z ((i + 1 : Nat) : Int)) (fun k => ?_) hev⟩
      simp only [selvedgeref02_First.l0]
      rw [wrapI (by omega), if_pos (by omega), if_neg h1, w]
theorem reffirst_is (l : List Int) (hl : Bytes l) (hn : l.length ≤ 80) (a z : Int) : ∃ r, IsFirst l a z r ∧ Ev (fun k => selvedgeref02_First.f k l a z) r :=
  reffirst_l0 l hl hn a z _ 0 rfl (by omega) (fun j h1 h2 h3 => by omega)
/-- Once enough rounds are given, each of two comes to its end. -/
theorem Ev.bind' {α β : Type} {g : Nat → Option α} {f : Nat → α → Option β} {a : α} {r : β} (h : Ev g a) (k : Ev (fun n => f n a) r) : Ev (fun n => (g n).bind (f n)) r := Ev.bind h k
end Go.Proofs.Yteodjknknpdmeaa.Pure
