import Derived.Test.YthembklejaabiaaSTopApart
import Derived.Test.YthembklejaabiaaB0
namespace Go.Proofs.Ythembklejaabiaa.Pure
open Go.RowKit Go.Proofs.Ythembklejaabiaa.PL
open Go.Proofs.Ythembklejaabiaa.PG Go.Proofs.YthembklejaabiaaW.PrintWords Go.Proofs.YthembklejaabiaaW.PrintLast Go.Proofs.YthembklejaabiaaW.PrintMore
theorem runs_in64 (pre : List Int) : (∀ t ∈ pre, 0 ≤ t ∧ t < 64) → ∀ r ∈ runs pre, 0 ≤ r.f0 ∧ 1 ≤ r.f1 ∧ r.f0 + r.f1 ≤ 64 := by
  refine snocRec (p := fun pre => (∀ t ∈ pre, 0 ≤ t ∧ t < 64) → ∀ r ∈ runs pre, 0 ≤ r.f0 ∧ 1 ≤ r.f1 ∧ r.f0 + r.f1 ≤ 64) ?_ ?_ pre
  · intro _ r hr
    simp [runs] at hr
  · intro l x ih hl r hr
    have ih' := ih (fun t ht => hl t (by simp [ht]))
    have hx := hl x (by simp)
    rw [runs_snoc] at hr
    rcases List.eq_nil_or_concat (runs l) with h0 | ⟨ts, q, h0⟩
    · rw [h0, addRun_nil] at hr
      obtain rfl := List.mem_singleton.1 hr
      exact ⟨hx.1, Int.le_refl _, by show x + 1 ≤ 64; omega⟩
    · rw [List.concat_eq_append] at h0
      rw [h0] at hr ih'
      have hq := ih' q (by simp)
      by_cases hh : wrap64 (q.f0 + q.f1) = x
      · rw [addRun_hit _ _ _ hh] at hr
        rcases List.mem_append.1 hr with h | h
        · exact ih' r (by simp [h])
        · obtain rfl := List.mem_singleton.1 h
          rw [w64 (by omega) (by omega)] at hh
          show 0 ≤ q.f0 ∧ 1 ≤ wrap64 (q.f1 + 1) ∧ q.f0 + wrap64 (q.f1 + 1) ≤ 64
          rw [w64 (by omega) (by omega)]
          omega
      · rw [addRun_miss _ _ _ hh] at hr
        rcases List.mem_append.1 hr with h | h
        · exact ih' r h
        · obtain rfl := List.mem_singleton.1 h
          exact ⟨hx.1, Int.le_refl _, by show x + 1 ≤ 64; omega⟩
theorem apart_loop (rs : List S37) (hr : ∀ r ∈ rs, 0 ≤ r.f0 ∧ 1 ≤ r.f1 ∧ r.f0 + r.f1 ≤ 64) (hl : rs.length ≤ 1000) : ∀ (d : Nat) (i : Int) (k : Nat), 0 ≤ i → i + d = rs.length → d < k → selvedgetop_TopApart.l0 k rs i = some true := by
  intro d
  induction d with
  | zero =>
    intro i k h0 hi hk
    obtain ⟨k, rfl⟩ : ∃ m, k = m + 1 := ⟨k - 1, by omega⟩
    simp only [selvedgetop_TopApart.l0]
    rw [if_neg (by omega)]
  | succ d ih =>
    intro i k h0 hi hk
    obtain ⟨k, rfl⟩ : ∃ m, k = m + 1 := ⟨k - 1, by omega⟩
    simp only [selvedgetop_TopApart.l0]
    rw [if_pos (by omega), if_pos h0]
    have hm : rd_T37 rs i ∈ rs := by
      unfold rd_T37
      rw [List.getD_eq_getElem?_getD, List.getElem?_eq_getElem (show i.toNat < rs.length by omega), Option.getD_some]
      exact List.getElem_mem _
    obtain ⟨r, hrr⟩ : ∃ r, rd_T37 rs i = r := ⟨_, rfl⟩
    rw [hrr] at hm ⊢
    have h := hr r hm
    have hp : Tr 64 := ⟨by omega, by omega⟩
    have ha : Bl r.f0 := ⟨by omega, by omega⟩
    have e : wrap64 (wrap64 (r.f0 + r.f1) - 1) = r.f0 + r.f1 - 1 := by rw [w64 (n := r.f0 + r.f1) (by omega) (by omega), w64 (by omega) (by omega)]
    have hb : Bl (r.f0 + r.f1 - 1) := ⟨by omega, by omega⟩
    rw [e, At_is ha hp, Option.bind_some, At_is hb hp, Option.bind_some, if_pos rfl, if_pos rfl, Way_is ha hb hp, Option.bind_some]
    have hw : wayI r.f0 (r.f0 + r.f1 - 1) 64 = wrap64 (r.f1 - 1) := by
      rw [w64 (by omega) (by omega)]
      obtain ⟨n, hn⟩ := Int.eq_ofNat_of_zero_le h.1
      obtain ⟨m, hm⟩ := Int.eq_ofNat_of_zero_le (show 0 ≤ r.f1 by omega)
      unfold wayI apartN
      rw [hn, hm]
      rw [show ((n : Int) + (m : Int) - 1).toNat = n + m - 1 by omega]
      simp only [Int.toNat_natCast, show (64 : Int).toNat = 64 from rfl]
      rw [Nat.div_eq_of_lt (show n < 64 by omega), Nat.div_eq_of_lt (show n + m - 1 < 64 by omega), Nat.mod_eq_of_lt (show n < 64 by omega), Nat.mod_eq_of_lt (show n + m - 1 < 64 by omega)]
      omega
    rw [if_pos hw, w64 (by omega) (by omega)]
    exact ih (i + 1) k (by omega) (by omega) (by omega)
theorem apart_j0 (l : List Int) (hl : l.length ≤ 8) (hb : ∀ y ∈ l, 0 ≤ y ∧ y < 256) : selvedgetop_TopApart.j0 1000 l = some true := by
  have hf : Fine l := ⟨hb, by omega⟩
  simp only [selvedgetop_TopApart.j0]
  rw [show bitset_Runs.f l = some (runs (bitsOf l)) by unfold bitset_Runs.f; rw [if_pos hf], Option.bind_some, At_is ⟨by omega, by omega⟩ ⟨by omega, by omega⟩, Option.bind_some, if_pos rfl, Way_11, Option.bind_some]
  simp only [selvedgetop_TopApart.j1]
  rw [if_neg (by decide)]
  have hin : ∀ t ∈ bitsOf l, 0 ≤ t ∧ t < 64 := fun t ht => by
    have := bitsFrom_mem l 0 t ht
    omega
  have hlen := runs_len (bitsOf l)
  have hlen2 := bitsOf_len l
  exact apart_loop _ (runs_in64 _ hin) (by omega) (runs (bitsOf l)).length 0 _ (by omega) (by omega) (by omega)
theorem TopApart : TopApart_ := by
  intro l0 hl hb
  have hb' : ∀ y ∈ l0, 0 ≤ y ∧ y < 256 := fun y hy => u8b (hb y hy)
  refine ⟨1000, ?_⟩
  unfold selvedgetop_TopApart.f
  by_cases h : (l0.length : Int) > 8
  · rw [if_pos h, if_pos (by omega)]
    exact apart_j0 _ (by simp; omega) (fun y hy => hb' y (List.mem_of_mem_take hy))
  · rw [if_neg h]
    exact apart_j0 _ (by omega) hb'
end Go.Proofs.Ythembklejaabiaa.Pure
