import Derived.Test.YthembklejaabiaaSPlaceSame
import Derived.Test.YthembklejaabiaaB3
namespace Go.Proofs.Ythembklejaabiaa.Pure
open Go.RowKit Go.Proofs.Ythembklejaabiaa.PL
open Go.Proofs.Ythembklejaabiaa.PG Go.Proofs.YthembklejaabiaaW.PrintWords Go.Proofs.YthembklejaabiaaW.PrintLast Go.Proofs.YthembklejaabiaaW.PrintMore
theorem track_bound : ∀ q : Nat, q < 65 → 0 < q → 1023 / q + (q - 1) ≤ 1024 := by decide
theorem wayI_le2 (a b p : Int) (ha : Bl a) (hb : Bl b) (hp : Tr p) : 0 ≤ wayI a b p ∧ wayI a b p ≤ 1024 := by
  obtain ⟨m, rfl⟩ := Int.eq_ofNat_of_zero_le ha.1
  obtain ⟨n, rfl⟩ := Int.eq_ofNat_of_zero_le hb.1
  obtain ⟨q, rfl⟩ := Int.eq_ofNat_of_zero_le (show 0 ≤ p by have := hp.1; omega)
  have h1 := hp.1
  have h2 := hp.2
  have h3 := ha.2
  have h4 := hb.2
  have t := track_bound q (by omega) (by omega)
  have d1 : m / q ≤ 1023 / q := Nat.div_le_div_right (by omega)
  have d2 : n / q ≤ 1023 / q := Nat.div_le_div_right (by omega)
  have r1 : m % q < q := Nat.mod_lt _ (by omega)
  have r2 : n % q < q := Nat.mod_lt _ (by omega)
  unfold wayI apartN
  simp only [Int.toNat_natCast]
  generalize m / q = x1 at d1 ⊢
  generalize n / q = x2 at d2 ⊢
  generalize m % q = x3 at r1 ⊢
  generalize n % q = x4 at r2 ⊢
  generalize 1023 / q = x5 at t d1 d2
  omega
theorem rt_bound2 {p : Int} (hp : Tr p) : ∀ (l : List Int) (a : Int), Bl a → Bls l → 0 ≤ rt p a l ∧ rt p a l ≤ 1024 * (l.length : Int) := by
  intro l
  induction l with
  | nil => intro a _ _; simp [rt]
  | cons b t ih =>
    intro a ha hl
    have hb := hl b (by simp)
    have h1 := wayI_le2 a b p ha hb hp
    have h2 := ih b hb (fun c hc => hl c (by simp [hc]))
    simp only [rt, List.length_cons]
    omega
theorem count_take (l : List Int) (x : Int) (j : Nat) (h : j < l.length) : (l.take (j + 1)).count x = (l.take j).count x + (if l[j] = x then 1 else 0) := by
  rw [List.take_succ_eq_append_getElem h, List.count_append, List.count_singleton]
  by_cases e : l[j] = x
  · simp [e]
  · simp [e]
theorem count_loop (a0 p : Int) (m s : List Int) (i : Nat) (hi : i < m.length) (hlen : s.length = m.length) (hn : m.length < 1000) (hc : s.count m[i] = m.count m[i]) : ∀ (d j k : Nat), j + d = m.length →
    selvedgelaw01_PlaceSame.l1 (k + 2 * d + 2) a0 m p s (i : Int) ((m.take j).count m[i] : Int) ((s.take j).count m[i] : Int) (j : Int) = selvedgelaw01_PlaceSame.l0 k a0 m p s ((i + 1 : Nat) : Int) := by
  intro d
  induction d with
  | zero =>
    intro j k hj
    simp only [selvedgelaw01_PlaceSame.l1]
    rw [if_neg (by omega)]
    simp only [selvedgelaw01_PlaceSame.j2]
    rw [if_neg (by decide), List.take_of_length_le (by omega), List.take_of_length_le (by omega), hc, if_pos rfl, w64 (by omega) (by omega)]
    rfl
  | succ d ih =>
    intro j k hj
    have hjm : j < m.length := by omega
    have hjs : j < s.length := by omega
    have ih2 := ih (j + 1) k (by omega)
    have b1 : (m.take j).count m[i] ≤ j := Nat.le_trans List.count_le_length (by simp; omega)
    have b2 : (s.take j).count m[i] ≤ j := Nat.le_trans List.count_le_length (by simp; omega)
    rw [count_take m _ j hjm, count_take s _ j hjs] at ih2
    generalize (m.take j).count m[i] = c1 at b1 ih2 ⊢
    generalize (s.take j).count m[i] = c2 at b2 ih2 ⊢
    rw [show k + 2 * (d + 1) + 2 = (k + 2 * d + 2) + 1 + 1 by omega]
    obtain ⟨K, hK⟩ : ∃ K, k + 2 * d + 2 = K := ⟨_, rfl⟩
    rw [hK] at ih2 ⊢
    simp only [selvedgelaw01_PlaceSame.l1]
    rw [if_pos (by omega), show decide ((j : Int) < (s.length : Int)) = true by simp; omega]
    simp only [selvedgelaw01_PlaceSame.j2]
    rw [if_pos trivial, if_pos (by omega), if_pos (by omega), if_pos (by omega), if_pos (by omega), rd_at _ _ hjm, rd_at _ _ hi, rd_at _ _ hjs, w64 (n := (j : Int) + 1) (by omega) (by omega)]
    by_cases e1 : m[j] = m[i]
    · rw [if_pos e1, if_pos (by omega)] 
      rw [if_pos e1] at ih2
      by_cases e2 : s[j] = m[i]
      · rw [if_pos e2, w64 (by omega) (by omega), w64 (by omega) (by omega)]
        rw [if_pos e2] at ih2
        exact ih2
      · rw [if_neg e2, w64 (by omega) (by omega)]
        rw [if_neg e2] at ih2
        exact ih2
    · rw [if_neg e1, if_pos (by omega)]
      rw [if_neg e1] at ih2
      by_cases e2 : s[j] = m[i]
      · rw [if_pos e2, w64 (by omega) (by omega)]
        rw [if_pos e2] at ih2
        exact ih2
      · rw [if_neg e2]
        rw [if_neg e2] at ih2
        exact ih2
theorem all_loop (a0 p : Int) (m s : List Int) (hp : Tr p) (ha : Bl a0) (hm : Bls m) (hs : s.Perm m) (hn : m.length ≤ 40) : ∀ (d i k : Nat), i + d = m.length → d * 100 < k → selvedgelaw01_PlaceSame.l0 k a0 m p s (i : Int) = some true := by
  have hlen := hs.length_eq
  intro d
  induction d with
  | zero =>
    intro i k hi hk
    obtain ⟨k, rfl⟩ : ∃ m, k = m + 1 := ⟨k - 1, by omega⟩
    simp only [selvedgelaw01_PlaceSame.l0]
    have hb : Bls s := fun b hb => hm b (hs.mem_iff.1 hb)
    have hr : PG.place_Route.f a0 s p = some (rt p a0 s, 0) := by
      unfold PG.place_Route.f PL.place_Route.f
      rw [if_pos (by omega), if_pos ⟨mayB_one ha hp, (mayB_iff p s).2 ⟨hp, hb⟩⟩]
    have hbd := rt_bound2 hp s a0 ha hb
    rw [if_neg (by omega), hr, Option.bind_some, show selvedgelaw01_live.f = some true from rfl, Option.bind_some, if_pos rfl, if_pos (by omega), if_pos rfl, w64 (by omega) (by omega)]
    congr 1
    simp
    omega
  | succ d ih =>
    intro i k hi hk
    have hlt : i < m.length := by omega
    obtain ⟨k, rfl⟩ : ∃ q, k = (q + 2 * m.length + 2) + 1 := ⟨k - 2 * m.length - 3, by omega⟩
    simp only [selvedgelaw01_PlaceSame.l0]
    rw [if_pos (by omega)]
    have := count_loop a0 p m s i hlt hlen (by omega) (hs.count_eq _) m.length 0 k (by omega)
    simp only [List.take_zero, List.count_nil] at this
    rw [show ((0 : Nat) : Int) = 0 from rfl] at this
    rw [this]
    exact ih (i + 1) k (by omega) (by omega)
theorem PlaceSame : PlaceSame_ := by
  intro a0 l1 a2 _ _ _ _
  obtain ⟨m, hm, hl, _, _⟩ := few_is l1
  refine ⟨6000, ?_⟩
  unfold selvedgelaw01_PlaceSame.f
  rw [hm, Option.bind_some, Sweep_is a0 a2 m (by omega) 6000 (by omega), Option.bind_some]
  unfold swF
  by_cases h : mayB a2 [a0] = true ∧ mayB a2 m = true
  · rw [if_pos h, if_pos rfl]
    have h1 := (mayB_iff a2 [a0]).1 h.1
    have h2 := (mayB_iff a2 m).1 h.2
    exact all_loop a0 a2 m _ h1.1 (h1.2 a0 (by simp)) h2.2 (sw_perm a2 m.length a0 m rfl) hl m.length 0 6000 (by omega) (by omega)
  · rw [if_neg h, if_neg (by decide), show selvedgelaw01_live.f = some true from rfl, Option.bind_some, if_pos rfl]
    rfl
end Go.Proofs.Ythembklejaabiaa.Pure
