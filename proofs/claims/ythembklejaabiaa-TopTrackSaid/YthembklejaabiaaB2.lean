import Derived.Test.YthembklejaabiaaB1
import Derived.Test.YthembklejaabiaaPGx3
/-! Plain laws of the document's answer: how far it is to go, the one that is nearest. -/
namespace Go.Proofs.Ythembklejaabiaa.Pure
open Go.RowKit Go.Proofs.Ythembklejaabiaa.Fl Go.Proofs.Ythembklejaabiaa.PL
open Go.Proofs.Ythembklejaabiaa.PG Go.Proofs.YthembklejaabiaaW.PrintWords Go.Proofs.YthembklejaabiaaW.PrintLast Go.Proofs.YthembklejaabiaaW.PrintMore
/-- Blocks that there are. -/
def Bls (l : List Int) : Prop := ∀ b ∈ l, Bl b
theorem Bls.at_ {l : List Int} (h : Bls l) (i : Nat) (hi : i < l.length) : Bl l[i] := h _ (List.getElem_mem hi)
theorem rt_bound {p : Int} (hp : Tr p) : ∀ (l : List Int) (a : Int), Bl a → Bls l → 0 ≤ rt p a l ∧ rt p a l ≤ 1086 * (l.length : Int) := by
  intro l
  induction l with
  | nil => intro a _ _; simp [rt]
  | cons b t ih =>
    intro a ha hl
    have hb := hl b (by simp)
    have h1 := wayI_le a b p ha hb hp
    have h2 := ih b hb (fun c hc => hl c (by simp [hc]))
    simp only [rt, List.length_cons]
    omega
theorem route_loop (l : List Int) (p : Int) (hp : Tr p) (hl : Bls l) (hn : l.length < 100000) : ∀ (d i k : Nat) (a n : Int), i + d = l.length → d < k → Bl a → 0 ≤ n → n ≤ 1086 * (i : Int) →
    selvedgeref01_Route.l0 k l p n a (i : Int) = some (n + rt p a (l.drop i), 0) := by
  intro d
  induction d with
  | zero =>
    intro i k a n hi hk ha h0 h1
    obtain ⟨k, rfl⟩ : ∃ m, k = m + 1 := ⟨k - 1, by omega⟩
    simp only [selvedgeref01_Route.l0]
    rw [if_neg (by omega), List.drop_eq_nil_of_le (by omega)]
    simp [rt]
  | succ d ih =>
    intro i k a n hi hk ha h0 h1
    obtain ⟨k, rfl⟩ : ∃ m, k = m + 1 := ⟨k - 1, by omega⟩
    have hlt : i < l.length := by omega
    have hb := hl.at_ i hlt
    have hw := wayI_le a l[i] p ha hb hp
    simp only [selvedgeref01_Route.l0]
    rw [if_pos (by omega), if_pos (by omega), rd_at l i hlt, way_is ha hb hp k (by omega), Option.bind_some, w64 (by omega) (by omega), w64 (n := (i : Int) + 1) (by omega) (by omega), show ((i : Int) + 1) = ((i + 1 : Nat) : Int) by omega,
      ih (i + 1) k l[i] (n + wayI a l[i] p) (by omega) (by omega) hb (by omega) (by omega), List.drop_eq_getElem_cons hlt]
    simp only [rt]
    congr 2
    omega
theorem refRoute_is (a p : Int) (l : List Int) (hn : l.length < 100000) (k : Nat) (hk : l.length < k) : selvedgeref01_Route.f k a l p = PG.place_Route.f a l p := by
  unfold selvedgeref01_Route.f PG.place_Route.f PL.place_Route.f
  rw [fits_is a l p (by omega) k hk, Option.bind_some, if_pos (show l.length < 140737488355328 by omega)]
  by_cases h : mayB p [a] = true ∧ mayB p l = true
  · rw [if_pos h, if_pos ((fits_may p a l).2 h)]
    have h1 := (mayB_iff p [a]).1 h.1
    have h2 := (mayB_iff p l).1 h.2
    have := route_loop l p h1.1 h2.2 hn l.length 0 k a 0 (by omega) hk (h1.2 a (by simp)) (by omega) (by omega)
    rw [show ((0 : Nat) : Int) = 0 from rfl] at this
    rw [this]
    simp
  · rw [if_neg h, if_neg (fun h' => h ((fits_may p a l).1 h'))]
theorem next_loop (l : List Int) (p a : Int) (hp : Tr p) (ha : Bl a) (hl : Bls l) (hn : l.length < 100000) : ∀ (d i k b : Nat), i + d = l.length → d + 1 < k → (hb : b < l.length) →
    selvedgeref01_Next.l0 k a l p (b : Int) (i : Int) = some ((nx p a (l.drop i) i ((b : Int), wayI a l[b] p)).1, true) := by
  intro d
  induction d with
  | zero =>
    intro i k b hi hk hb
    obtain ⟨k, rfl⟩ : ∃ m, k = m + 1 := ⟨k - 1, by omega⟩
    simp only [selvedgeref01_Next.l0]
    rw [if_neg (by omega), List.drop_eq_nil_of_le (by omega)]
    rfl
  | succ d ih =>
    intro i k b hi hk hb
    obtain ⟨k, rfl⟩ : ∃ m, k = m + 1 := ⟨k - 1, by omega⟩
    have hlt : i < l.length := by omega
    simp only [selvedgeref01_Next.l0]
    rw [if_pos (by omega), if_pos (by omega), rd_at l i hlt, way_is ha (hl.at_ i hlt) hp k (by omega), Option.bind_some, if_pos (by omega), if_pos (by omega), rd_at l b hb, way_is ha (hl.at_ b hb) hp k (by omega), Option.bind_some, w64 (by omega) (by omega), show ((i : Int) + 1) = ((i + 1 : Nat) : Int) by omega, List.drop_eq_getElem_cons hlt]
    simp only [nx]
    by_cases h : wayI a l[i] p < wayI a l[b] p
    · rw [if_pos h, if_pos h]
      exact ih (i + 1) k i (by omega) (by omega) hlt
    · rw [if_neg h, if_neg h]
      exact ih (i + 1) k b (by omega) (by omega) hb
theorem nx_first (p a b M : Int) (t : List Int) (h : wayI a b p < M) : nx p a (b :: t) 0 (0, M) = nx p a t 1 (0, wayI a b p) := by
  simp only [nx]
  rw [if_pos h]
  simp
theorem refNext_is (a p : Int) (l : List Int) (hn : l.length < 100000) (k : Nat) (hk : l.length + 2 < k) : selvedgeref01_Next.f k a l p = PG.place_Next.f a l p := by
  obtain ⟨k, rfl⟩ : ∃ m, k = m + 1 := ⟨k - 1, by omega⟩
  unfold selvedgeref01_Next.f PG.place_Next.f PL.place_Next.f
  rw [if_pos (show l.length < 140737488355328 by omega)]
  by_cases h0 : l.length = 0
  · rw [if_pos (by omega), if_neg (fun h => h.1 h0)]
    simp [selvedgeref01_Next.j0]
  · rw [if_neg (by omega), fits_is a l p (by omega) _ (by omega), Option.bind_some]
    simp only [selvedgeref01_Next.j0]
    by_cases h : mayB p [a] = true ∧ mayB p l = true
    · rw [(fits_may p a l).2 h, if_neg (show ¬ ((!true) = true) by decide), if_pos ⟨h0, h⟩]
      have h1 := (mayB_iff p [a]).1 h.1
      have h2 := (mayB_iff p l).1 h.2
      have hb := next_loop l p a h1.1 (h1.2 a (by simp)) h2.2 hn (l.length - 1) 1 k 0 (by omega) (by omega) (by omega)
      rw [show ((0 : Nat) : Int) = 0 from rfl, show ((1 : Nat) : Int) = 1 from rfl] at hb
      rw [hb]
      have hw := wayI_le a l[0] p (h1.2 a (by simp)) (Bls.at_ h2.2 0 (by omega)) h1.1
      have hd : l = l[0] :: l.drop 1 := by
        have := List.drop_eq_getElem_cons (l := l) (i := 0) (by omega)
        simpa using this
      have e : nx p a l 0 (0, 9223372036854775807) = nx p a (l.drop 1) 1 ((0 : Int), wayI a l[0] p) := by
        conv => lhs; rw [hd]
        exact nx_first _ _ _ _ _ (by omega)
      rw [e]
    · have hf : fitsB p (a :: l) = false := by
        cases hf : fitsB p (a :: l) with
        | false => rfl
        | true => exact absurd ((fits_may p a l).1 hf) h
      rw [hf, if_pos (show (!false) = true from rfl), if_neg (fun h' => h h'.2)]
theorem few_is (l : List Int) : ∃ m : List Int, selvedgelaw01_few.f l = some m ∧ m.length ≤ 40 ∧ m.length ≤ l.length ∧ ∀ y ∈ m, y ∈ l := by
  unfold selvedgelaw01_few.f
  by_cases h : (l.length : Int) > 40
  · rw [if_pos h, if_pos (by omega)]
    exact ⟨_, rfl, by simp; omega, by simp; omega, fun y hy => List.mem_of_mem_take hy⟩
  · rw [if_neg h]
    exact ⟨_, rfl, by omega, by omega, fun y hy => hy⟩
theorem Route_ex (a p : Int) (l : List Int) (hn : l.length < 100000) : ∃ r, PG.place_Route.f a l p = some r := by
  unfold PG.place_Route.f PL.place_Route.f
  rw [if_pos (by omega)]
  split <;> exact ⟨_, rfl⟩
theorem Next_ex (a p : Int) (l : List Int) (hn : l.length < 100000) : ∃ r, PG.place_Next.f a l p = some r := by
  unfold PG.place_Next.f PL.place_Next.f
  rw [if_pos (by omega)]
  split <;> exact ⟨_, rfl⟩
end Go.Proofs.Ythembklejaabiaa.Pure
