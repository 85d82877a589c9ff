import Derived.Test.YthembklejaabiaaB0
import Derived.Test.YthembklejaabiaaPGx2
/-! Plain laws of the document's answer: where a block lies, how far it is from block to block. -/
namespace Go.Proofs.Ythembklejaabiaa.Pure
open Go.RowKit Go.Proofs.Ythembklejaabiaa.Fl Go.Proofs.Ythembklejaabiaa.PL
open Go.Proofs.Ythembklejaabiaa.PG Go.Proofs.YthembklejaabiaaW.PrintWords Go.Proofs.YthembklejaabiaaW.PrintLast Go.Proofs.YthembklejaabiaaW.PrintMore
theorem mayB_iff (p : Int) (l : List Int) : mayB p l = true ↔ Tr p ∧ ∀ b ∈ l, Bl b := by
  constructor
  · exact may_all
  · rintro ⟨⟨h1, h2⟩, h3⟩
    simp only [mayB, Bool.and_eq_true, decide_eq_true_eq, Bool.not_eq_true']
    refine ⟨⟨h1, h2⟩, ?_⟩
    rw [List.any_eq_false]
    intro b hb
    have := h3 b hb
    have h4 := this.1
    have h5 := this.2
    simp [bad]
    omega
theorem refAt_is {b p : Int} (hb : Bl b) (hp : Tr p) : selvedgeref01_At.f b p = some (X b p, Y b p, 0) := by
  obtain ⟨n, rfl⟩ := Int.eq_ofNat_of_zero_le hb.1
  obtain ⟨q, rfl⟩ := Int.eq_ofNat_of_zero_le (show 0 ≤ p by have := hp.1; omega)
  have h1 := hb.2
  have h2 := hp.1
  have h3 := hp.2
  unfold selvedgeref01_At.f
  rw [if_neg (by omega), if_neg (by omega), if_neg (by omega), if_neg (by omega), if_neg (by omega)]
  have e1 : wrap64 (Int.tdiv (n : Int) (q : Int)) = ((n / q : Nat) : Int) := by
    rw [Int.tdiv_eq_ediv_of_nonneg (by omega), ← Int.natCast_ediv]
    have := Nat.div_le_self n q
    generalize n / q = m at this ⊢
    rw [w64 (by omega) (by omega)]
  have e2 : Int.tmod (n : Int) (q : Int) = ((n % q : Nat) : Int) := by
    rw [Int.tmod_eq_emod_of_nonneg (by omega), ← Int.natCast_emod]
  rw [e1, e2, F_eq, F_eq]
  rfl
/-- The error that At answers. -/
def errA (b p : Int) : Int := if mayB p [b] = true then 0 else 2
theorem refAt_err (b p : Int) : ∃ x y, selvedgeref01_At.f b p = some (x, y, errA b p) := by
  by_cases hm : mayB p [b] = true
  · have h := (mayB_iff p [b]).1 hm
    exact ⟨_, _, by rw [refAt_is (h.2 b (by simp)) h.1, errA, if_pos hm]⟩
  · refine ⟨0, 0, ?_⟩
    rw [errA, if_neg hm]
    unfold selvedgeref01_At.f
    by_cases h1 : b < 0
    · rw [if_pos h1]
    · rw [if_neg h1]
      by_cases h2 : b ≥ 1024
      · rw [if_pos h2]
      · rw [if_neg h2]
        by_cases h3 : p < 1
        · rw [if_pos h3]
        · rw [if_neg h3]
          by_cases h4 : p > 64
          · rw [if_pos h4]
          · exact absurd (mayB_one ⟨by omega, by omega⟩ ⟨by omega, by omega⟩) hm
theorem rd_at (l : List Int) (i : Nat) (h : i < l.length) : rd l (i : Int) = l[i] := by
  unfold rd
  rw [Int.toNat_natCast, List.getD_eq_getElem?_getD, List.getElem?_eq_getElem h, Option.getD_some]
/-- All of a row may be. -/
def fitsB (p : Int) (l : List Int) : Bool := l.all fun b => mayB p [b]
theorem fits_loop (l : List Int) (p : Int) (hl : l.length < 1000000) : ∀ (d i k : Nat), i + d = l.length → d < k →
    selvedgeref01_fits.l0 k l p 0 (i : Int) = some (fitsB p (l.drop i)) ∧ ∀ e : Int, e ≠ 0 → selvedgeref01_fits.l0 k l p e (i : Int) = some false := by
  intro d
  induction d with
  | zero =>
    intro i k hi hk
    obtain ⟨k, rfl⟩ : ∃ m, k = m + 1 := ⟨k - 1, by omega⟩
    simp only [selvedgeref01_fits.l0]
    rw [if_neg (by omega), List.drop_eq_nil_of_le (by omega)]
    refine ⟨rfl, fun e he => ?_⟩
    rw [show (e == 0) = false by simpa using he, if_neg (by omega)]
  | succ d ih =>
    intro i k hi hk
    obtain ⟨k, rfl⟩ : ∃ m, k = m + 1 := ⟨k - 1, by omega⟩
    simp only [selvedgeref01_fits.l0]
    have c0 : (i : Int) < (l.length : Int) := by omega
    simp only [if_pos c0]
    refine ⟨?_, fun e he => ?_⟩
    · have hlt : i < l.length := by omega
      obtain ⟨x, y, hxy⟩ := refAt_err (rd l (i : Int)) p
      rw [rd_at l i hlt] at hxy
      simp only [if_true]
      rw [if_pos (show (0 : Int) ≤ (i : Int) by omega), rd_at l i hlt, hxy, Option.bind_some, w64 (by omega) (by omega), show ((i : Int) + 1) = ((i + 1 : Nat) : Int) by omega]
      have hd : l.drop i = l[i] :: l.drop (i + 1) := List.drop_eq_getElem_cons hlt
      rw [hd]
      unfold fitsB
      rw [List.all_cons]
      obtain ⟨ih1, ih2⟩ := ih (i + 1) k (by omega) (by omega)
      cases hm : mayB p [l[i]] with
      | true =>
        rw [show errA l[i] p = 0 by rw [errA, if_pos hm]]
        exact ih1
      | false =>
        rw [show errA l[i] p = 2 by rw [errA, hm]; rfl]
        exact ih2 2 (by decide)
    · rw [if_neg he, show (e == 0) = false by simpa using he]
theorem fits_is (a : Int) (l : List Int) (p : Int) (hl : l.length < 1000000) (k : Nat) (hk : l.length < k) : selvedgeref01_fits.f k a l p = some (fitsB p (a :: l)) := by
  unfold selvedgeref01_fits.f
  obtain ⟨x, y, hxy⟩ := refAt_err a p
  rw [hxy, Option.bind_some]
  obtain ⟨h1, h2⟩ := fits_loop l p hl l.length 0 k (by omega) hk
  unfold fitsB
  rw [List.all_cons]
  cases hm : mayB p [a] with
  | true => rw [show errA a p = 0 by rw [errA, if_pos hm]]; exact h1
  | false => rw [show errA a p = 2 by rw [errA, hm]; rfl]; exact h2 2 (by decide)
theorem fits_may (p a : Int) (l : List Int) : fitsB p (a :: l) = true ↔ mayB p [a] = true ∧ mayB p l = true := by
  unfold fitsB
  rw [List.all_eq_true]
  simp only [mayB_iff]
  constructor
  · intro h
    have h0 := h a (by simp)
    exact ⟨h0, h0.1, fun b hb => (h b (by simp [hb])).2 b (by simp)⟩
  · rintro ⟨h1, h2⟩ b hb
    refine ⟨h1.1, fun c hc => ?_⟩
    obtain rfl := List.mem_singleton.1 hc
    rcases List.mem_cons.1 hb with rfl | hb
    · exact h1.2 _ (by simp)
    · exact h2.2 _ hb
theorem plain_is {b p : Int} (hb : Bl b) (hp : Tr p) : selvedgeref01_plain.f (X b p) (Y b p) = some (((b.toNat / p.toNat : Nat) : Int), ((b.toNat % p.toNat : Nat) : Int), true) := by
  have h1 := parts hb hp
  have e1 : selvedgeref01_whole.f (X b p) = some (((b.toNat / p.toNat : Nat) : Int), true) := by
    unfold selvedgeref01_whole.f X
    rw [unF_F _ _ h1.1 (by omega)]
    rfl
  have e2 : selvedgeref01_whole.f (Y b p) = some (((b.toNat % p.toNat : Nat) : Int), true) := by
    unfold selvedgeref01_whole.f Y
    rw [unF_F _ _ (show b.toNat % p.toNat < 1024 by omega) (by omega)]
    rfl
  unfold selvedgeref01_plain.f
  rw [e1, Option.bind_some, e2, Option.bind_some, if_pos rfl]
theorem apart_is (x y : Nat) (hx : x < 5000) (hy : y < 5000) : selvedgeref01_apart.f (x : Int) (y : Int) = some (((x : Int) - y).natAbs : Int) := by
  unfold selvedgeref01_apart.f
  by_cases h : (x : Int) < y
  · rw [if_pos h, w64 (by omega) (by omega)]
    congr 1; omega
  · rw [if_neg h, w64 (by omega) (by omega)]
    congr 1; omega
theorem way_is {a b p : Int} (ha : Bl a) (hb : Bl b) (hp : Tr p) (k : Nat) (hk : 0 < k) : selvedgeref01_way.f k a b p = some (wayI a b p) := by
  obtain ⟨k, rfl⟩ : ∃ m, k = m + 1 := ⟨k - 1, by omega⟩
  have h1 := parts ha hp
  have h2 := parts hb hp
  unfold selvedgeref01_way.f
  rw [refAt_is ha hp, Option.bind_some, refAt_is hb hp, Option.bind_some]
  unfold selvedgeref01_Way.f
  rw [plain_is ha hp, Option.bind_some, plain_is hb hp, Option.bind_some, if_pos rfl]
  simp only [selvedgeref01_Way.j0]
  rw [if_neg (by decide), apart_is _ _ (by omega) (by omega), Option.bind_some, apart_is _ _ (by omega) (by omega), Option.bind_some]
  simp only [Option.bind_some]
  unfold wayI apartN
  generalize a.toNat / p.toNat = m1 at h1 ⊢
  generalize a.toNat % p.toNat = m2 at h1 ⊢
  generalize b.toNat / p.toNat = m3 at h2 ⊢
  generalize b.toNat % p.toNat = m4 at h2 ⊢
  rw [w64 (by omega) (by omega)]
  congr 1
end Go.Proofs.Ythembklejaabiaa.Pure
