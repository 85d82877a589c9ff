import Derived.Test.YtfbjeiloefocgaaYD
/-! Plain laws: in which order blocks are gone to. -/
namespace Go.Proofs.Ytfbjeiloefocgaa.CC
open Go.RowKit Go.Proofs.Ytfbjeiloefocgaa.Fl Go.Proofs.Ytfbjeiloefocgaa.PL Go.Proofs.Ytfbjeiloefocgaa.PG Go.Proofs.YtfbjeiloefocgaaW.PrintWords Go.Proofs.YtfbjeiloefocgaaW.PrintLast Go.Proofs.YtfbjeiloefocgaaW.PrintMore
theorem askA_new {L : List S77} {b : Int} (hb : Bl b) (hn : b ∉ L.map (·.f0)) (hl : L.length < 24) : askA L b = (0, L ++ [⟨b, 0⟩]) := by
  have h1 := hb.1
  have h2 := hb.2
  unfold askA
  rw [if_neg (by omega), if_neg, if_neg (by omega)]
  intro h
  obtain ⟨x, hx, e⟩ := ix_pos h
  exact hn (List.mem_map.2 ⟨x, hx, e⟩)
theorem askAll_new : ∀ (D : List Int) (L : List S77), (∀ b ∈ D, Bl b) → (L.map (·.f0) ++ D).Nodup → L.length + D.length ≤ 24 → askAll D L = some (L ++ D.map (fun b => ⟨b, 0⟩))
  | [], L, _, _, _ => by simp [askAll]
  | b :: t, L, hb, hn, hl => by
    rw [List.length_cons] at hl
    have hnb : b ∉ L.map (·.f0) := fun h => (List.nodup_append.1 hn).2.2 b h b (by simp) rfl
    have e := askA_new (hb b (by simp)) hnb (by omega)
    unfold askAll
    rw [e, if_pos rfl]
    show askAll t (L ++ [(⟨b, 0⟩ : S77)]) = _
    rw [askAll_new t (L ++ [(⟨b, 0⟩ : S77)]) (fun c hc => hb c (by simp [hc])) (by simpa [List.append_assoc] using hn) (by simp; omega)]
    simp [List.append_assoc]
/-- None is old, nor gets it while these are gone to. -/
def Yng (L : List S77) : Prop := ∀ x ∈ L, x.f1 + L.length ≤ 12
theorem yng_old {L : List S77} (h : Yng L) (h0 : 0 < L.length) : oldix L = -1 := oldix_miss (fun x hx => by
  have := h x hx
  unfold oldB
  exact decide_eq_false (by omega))
theorem yng_drop {N : Nat} {s : Sc} {L : List S77} (hi : Inv N s L) (h : Yng L) (h0 : 0 < L.length) : Yng (dropA L (pickA s L).1.f0) := by
  have hl := dropA_len hi h0
  intro x hx
  unfold dropA at hx
  obtain ⟨y, hy, rfl⟩ := List.mem_map.1 hx
  have := h y (cancel_mem hy)
  show y.f1 + 1 + _ ≤ 12
  omega
theorem drop_sub {L : List S77} {b : Int} {x : S77} (hx : x ∈ dropA L b) : ∃ y ∈ L, y.f0 = x.f0 := by
  unfold dropA at hx
  obtain ⟨y, hy, rfl⟩ := List.mem_map.1 hx
  exact ⟨y, cancel_mem hy, rfl⟩
theorem drop_ne {N : Nat} {s : Sc} {L : List S77} (hi : Inv N s L) (h0 : 0 < L.length) {x : S77} (hx : x ∈ dropA L (pickA s L).1.f0) : x.f0 ≠ (pickA s L).1.f0 := by
  obtain ⟨n, hn, e⟩ := List.mem_iff_getElem.1 (pick_mem (s := s) h0)
  rw [← e] at hx ⊢
  rw [drop_nd hi.nd hn] at hx
  obtain ⟨y, hy, rfl⟩ := List.mem_map.1 hx
  obtain ⟨j, hj, hjn, rfl⟩ := List.mem_eraseIdx_iff_getElem.1 hy
  intro e2
  have e2 : L[j].f0 = L[n].f0 := e2
  have := ix_nd hi.nd hj
  rw [e2, ix_nd hi.nd hn] at this
  omega
theorem bst_min : ∀ (l : List S77) (y : S77), y ∈ l → (bst lowB l).f0 ≤ y.f0
  | [], y, h => by cases h
  | x :: t, y, h => by
    have : ∀ (t : List S77) (x : S77), (t.foldl (fun o y => if lowB y o = true then y else o) x).f0 ≤ x.f0 ∧ ∀ z ∈ t, (t.foldl (fun o y => if lowB y o = true then y else o) x).f0 ≤ z.f0 := by
      intro t
      induction t with
      | nil => intro x; exact ⟨Int.le_refl _, by simp⟩
      | cons z t ih =>
        intro x
        rw [List.foldl_cons]
        obtain ⟨h1, h2⟩ := ih (if lowB z x = true then z else x)
        have h3 : (if lowB z x = true then z else x).f0 ≤ x.f0 ∧ (if lowB z x = true then z else x).f0 ≤ z.f0 := by
          unfold lowB
          by_cases h : z.f0 < x.f0
          · rw [if_pos (decide_eq_true h)]; omega
          · rw [if_neg (by simpa using h)]; omega
        refine ⟨by omega, fun q hq => ?_⟩
        rcases List.mem_cons.1 hq with rfl | hq
        · omega
        · exact h2 q hq
    obtain ⟨h1, h2⟩ := this t x
    rcases List.mem_cons.1 h with rfl | h
    · exact h1
    · exact h2 y h
theorem bst_max : ∀ (l : List S77) (y : S77), y ∈ l → y.f0 ≤ (bst higB l).f0
  | [], y, h => by cases h
  | x :: t, y, h => by
    have : ∀ (t : List S77) (x : S77), x.f0 ≤ (t.foldl (fun o y => if higB y o = true then y else o) x).f0 ∧ ∀ z ∈ t, z.f0 ≤ (t.foldl (fun o y => if higB y o = true then y else o) x).f0 := by
      intro t
      induction t with
      | nil => intro x; exact ⟨Int.le_refl _, by simp⟩
      | cons z t ih =>
        intro x
        rw [List.foldl_cons]
        obtain ⟨h1, h2⟩ := ih (if higB z x = true then z else x)
        have h3 : x.f0 ≤ (if higB z x = true then z else x).f0 ∧ z.f0 ≤ (if higB z x = true then z else x).f0 := by
          unfold higB
          by_cases h : x.f0 < z.f0
          · rw [if_pos (decide_eq_true h)]; omega
          · rw [if_neg (by simpa using h)]; omega
        refine ⟨by omega, fun q hq => ?_⟩
        rcases List.mem_cons.1 hq with rfl | hq
        · omega
        · exact h2 q hq
    obtain ⟨h1, h2⟩ := this t x
    rcases List.mem_cons.1 h with rfl | h
    · exact h1
    · exact h2 y h
theorem bst_near (s : Sc) : ∀ (l : List S77) (y : S77), y ∈ l → wayI s.pos (bst (nearB s) l).f0 s.per ≤ wayI s.pos y.f0 s.per
  | [], y, h => by cases h
  | x :: t, y, h => by
    have : ∀ (t : List S77) (x : S77), wayI s.pos (t.foldl (fun o y => if nearB s y o = true then y else o) x).f0 s.per ≤ wayI s.pos x.f0 s.per ∧ ∀ z ∈ t, wayI s.pos (t.foldl (fun o y => if nearB s y o = true then y else o) x).f0 s.per ≤ wayI s.pos z.f0 s.per := by
      intro t
      induction t with
      | nil => intro x; exact ⟨Int.le_refl _, by simp⟩
      | cons z t ih =>
        intro x
        rw [List.foldl_cons]
        obtain ⟨h1, h2⟩ := ih (if nearB s z x = true then z else x)
        have h3 : wayI s.pos (if nearB s z x = true then z else x).f0 s.per ≤ wayI s.pos x.f0 s.per ∧ wayI s.pos (if nearB s z x = true then z else x).f0 s.per ≤ wayI s.pos z.f0 s.per := by
          by_cases h : nearB s z x = true
          · rw [if_pos h]
            unfold nearB dif at h
            simp only [Bool.or_eq_true, Bool.and_eq_true, decide_eq_true_eq, beq_iff_eq] at h
            omega
          · rw [if_neg h]
            unfold nearB dif at h
            simp only [Bool.or_eq_true, Bool.and_eq_true, decide_eq_true_eq, beq_iff_eq, not_or, not_and] at h
            omega
        refine ⟨by omega, fun q hq => ?_⟩
        rcases List.mem_cons.1 hq with rfl | hq
        · omega
        · exact h2 q hq
    obtain ⟨h1, h2⟩ := this t x
    rcases List.mem_cons.1 h with rfl | h
    · exact h1
    · exact h2 y h
/-- First in, first out. -/
theorem fifo_run : ∀ (k N : Nat) (s : Sc) (L : List S77), Inv N s L → s.p = 1 → L.length = k → Yng L → (runN k s L).1 = L.map (·.f0)
  | 0, N, s, L, hi, hp, hk, hy => by rw [List.length_eq_zero_iff.1 hk]; rfl
  | k + 1, N, s, L, hi, hp, hk, hy => by
    have h0 : 0 < L.length := by omega
    have hpk : (pickA s L).1 = L[0] := by
      rw [pick_cho (yng_old hy h0)]
      unfold choA
      rw [if_neg (by omega), if_neg (by omega), if_neg (by omega)]
      exact getD77 _ _ h0
    have hl := dropA_len hi h0
    have ih := fifo_run k (N + 1) (goA s (pickA s L)) (dropA L (pickA s L).1.f0) (inv_next hi h0) hp (by omega) (yng_drop hi hy h0)
    unfold runN
    show (pickA s L).1.f0 :: (runN k (goA s (pickA s L)) (dropA L (pickA s L).1.f0)).1 = _
    rw [ih, hpk, drop_nd hi.nd h0, older_blocks]
    cases L with
    | nil => simp at h0
    | cons x t => rfl
theorem near_head {k : Nat} {N : Nat} {s : Sc} {L : List S77} (hi : Inv N s L) (hp : s.p = 2) (hk : L.length = k + 1) (hy : Yng L) : ∃ O, (runN (k + 1) s L).1 = (bst (nearB s) L).f0 :: O := by
  have h0 : 0 < L.length := by omega
  have e : (pickA s L).1 = bst (nearB s) L := by
    rw [pick_cho (yng_old hy h0)]
    unfold choA
    rw [if_pos hp]
  refine ⟨(runN k (goA s (pickA s L)) (dropA L (pickA s L).1.f0)).1, ?_⟩
  show (pickA s L).1.f0 :: (runN k (goA s (pickA s L)) (dropA L (pickA s L).1.f0)).1 = _
  rw [e]
/-- Never down. -/
def asc (q : Int) : List Int → Prop
  | [] => True
  | y :: t => q ≤ y ∧ asc y t
/-- How often down. -/
def fallsN (q : Int) : List Int → Nat
  | [] => 0
  | y :: t => (if y < q then 1 else 0) + fallsN y t
theorem asc_falls : ∀ (q : Int) (l : List Int), asc q l → fallsN q l = 0
  | _, [], _ => rfl
  | q, y :: t, h => by
    unfold fallsN
    rw [if_neg (by have := h.1; omega), asc_falls y t h.2]
theorem cyc_pick {s : Sc} {L : List S77} (hp : s.p = 4) (hy : Yng L) (h0 : 0 < L.length) : (pickA s L).1 = cycA s L := by
  rw [pick_cho (yng_old hy h0)]
  unfold choA
  rw [if_neg (by omega), if_neg (by omega), if_pos hp]
theorem cyc_asc : ∀ (k N : Nat) (s : Sc) (L : List S77), Inv N s L → s.p = 4 → L.length = k → Yng L → (∀ x ∈ L, s.pos ≤ x.f0) → asc s.pos (runN k s L).1
  | 0, N, s, L, hi, hp, hk, hy, ha => trivial
  | k + 1, N, s, L, hi, hp, hk, hy, ha => by
    have h0 : 0 < L.length := by omega
    have hl := dropA_len hi h0
    have hf : L.filter (upB s) = L := List.filter_eq_self.2 (fun x hx => decide_eq_true (ha x hx))
    have hpk : (pickA s L).1 = bst lowB L := by
      rw [cyc_pick hp hy h0]
      unfold cycA
      rw [hf, if_pos h0]
    have hm := bst_mem lowB L h0
    unfold runN
    refine ⟨by rw [hpk]; exact ha _ hm, cyc_asc k (N + 1) _ _ (inv_next hi h0) hp (by omega) (yng_drop hi hy h0) (fun x hx => ?_)⟩
    obtain ⟨y, hy2, e⟩ := drop_sub hx
    show (pickA s L).1.f0 ≤ x.f0
    rw [hpk, ← e]
    exact bst_min L y hy2
theorem cyc_falls : ∀ (k N : Nat) (s : Sc) (L : List S77), Inv N s L → s.p = 4 → L.length = k → Yng L → fallsN s.pos (runN k s L).1 ≤ 1
  | 0, N, s, L, hi, hp, hk, hy => Nat.zero_le _
  | k + 1, N, s, L, hi, hp, hk, hy => by
    have h0 : 0 < L.length := by omega
    have hl := dropA_len hi h0
    have hi' := inv_next hi h0
    have hy' := yng_drop hi hy h0
    unfold runN fallsN
    by_cases hf : 0 < (L.filter (upB s)).length
    · have hpk : (pickA s L).1 = bst lowB (L.filter (upB s)) := by
        rw [cyc_pick hp hy h0]
        unfold cycA
        rw [if_pos hf]
      have hm : s.pos ≤ (bst lowB (L.filter (upB s))).f0 := of_decide_eq_true (show decide (s.pos ≤ (bst lowB (L.filter (upB s))).f0) = true from (List.mem_filter.1 (bst_mem lowB _ hf)).2)
      rw [if_neg (by rw [hpk]; omega), Nat.zero_add]
      exact cyc_falls k (N + 1) _ _ hi' hp (by omega) hy'
    · have hpk : (pickA s L).1 = bst lowB L := by
        rw [cyc_pick hp hy h0]
        unfold cycA
        rw [if_neg hf]
      have ha : asc (goA s (pickA s L)).pos (runN k (goA s (pickA s L)) (dropA L (pickA s L).1.f0)).1 := by
        refine cyc_asc k (N + 1) _ _ hi' hp (by omega) hy' (fun x hx => ?_)
        obtain ⟨y, hy2, e⟩ := drop_sub hx
        show (pickA s L).1.f0 ≤ x.f0
        rw [hpk, ← e]
        exact bst_min L y hy2
      have := asc_falls _ _ ha
      show (if (pickA s L).1.f0 < s.pos then 1 else 0) + fallsN (pickA s L).1.f0 _ ≤ 1
      rw [show fallsN (pickA s L).1.f0 (runN k (goA s (pickA s L)) (dropA L (pickA s L).1.f0)).1 = 0 from this]
      split <;> omega
/-- How often it turns, behind a move from a block. -/
def trn (up : Bool) (q : Int) : List Int → Nat
  | [] => 0
  | y :: t => (if decide (q < y) = up then 0 else 1) + trn (decide (q < y)) y t
theorem scan_pick {s : Sc} {L : List S77} (hp : s.p = 3) (hy : Yng L) (h0 : 0 < L.length) : pickA s L = scanA s L := by
  rw [pick_cho (yng_old hy h0)]
  unfold choA
  rw [if_neg (by omega), if_pos hp]
theorem scan_down : ∀ (k N : Nat) (s : Sc) (L : List S77), Inv N s L → s.p = 3 → s.up = false → L.length = k → Yng L → (∀ x ∈ L, x.f0 < s.pos) → trn false s.pos (runN k s L).1 = 0
  | 0, N, s, L, hi, hp, hu, hk, hy, ha => rfl
  | k + 1, N, s, L, hi, hp, hu, hk, hy, ha => by
    have h0 : 0 < L.length := by omega
    have hl := dropA_len hi h0
    have hf : L.filter (dnB s) = L := List.filter_eq_self.2 (fun x hx => decide_eq_true (by have := ha x hx; omega))
    have hpk : pickA s L = (bst higB L, false) := by
      rw [scan_pick hp hy h0]
      unfold scanA
      rw [hu, hf]
      simp [h0]
    have hm := ha _ (bst_mem higB L h0)
    have ih := scan_down k (N + 1) (goA s (pickA s L)) (dropA L (pickA s L).1.f0) (inv_next hi h0) hp (by rw [hpk]; rfl) (by omega) (yng_drop hi hy h0) (fun x hx => by
      obtain ⟨y, hy2, e⟩ := drop_sub hx
      have hne := drop_ne hi h0 hx
      show x.f0 < (pickA s L).1.f0
      have hle := bst_max L y hy2
      rw [hpk] at hne ⊢
      show x.f0 < (bst higB L).f0
      have hne : x.f0 ≠ (bst higB L).f0 := hne
      omega)
    have e1 : (pickA s L).1.f0 = (bst higB L).f0 := by rw [hpk]
    unfold runN trn
    have ed : decide (s.pos < (pickA s L).1.f0) = false := decide_eq_false (by rw [e1]; omega)
    rw [ed, if_pos rfl, Nat.zero_add]
    exact ih
theorem scan_up : ∀ (k N : Nat) (s : Sc) (L : List S77), Inv N s L → s.p = 3 → s.up = true → L.length = k → Yng L → (∀ x ∈ L, x.f0 ≠ s.pos) → trn true s.pos (runN k s L).1 ≤ 1
  | 0, N, s, L, hi, hp, hu, hk, hy, ha => Nat.zero_le _
  | k + 1, N, s, L, hi, hp, hu, hk, hy, ha => by
    have h0 : 0 < L.length := by omega
    have hl := dropA_len hi h0
    have hi' := inv_next hi h0
    have hy' := yng_drop hi hy h0
    by_cases hf : 0 < (L.filter (upB s)).length
    · have hpk : pickA s L = (bst lowB (L.filter (upB s)), true) := by
        rw [scan_pick hp hy h0]
        unfold scanA
        rw [hu]
        simp [hf]
      have hmf := List.mem_filter.1 (bst_mem lowB _ hf)
      have hm : s.pos ≤ (bst lowB (L.filter (upB s))).f0 := of_decide_eq_true (show decide (s.pos ≤ (bst lowB (L.filter (upB s))).f0) = true from hmf.2)
      have hn := ha _ hmf.1
      have e1 : (pickA s L).1.f0 = (bst lowB (L.filter (upB s))).f0 := by rw [hpk]
      unfold runN trn
      have ed : decide (s.pos < (pickA s L).1.f0) = true := decide_eq_true (by rw [e1]; omega)
      rw [ed, if_pos rfl, Nat.zero_add]
      exact scan_up k (N + 1) (goA s (pickA s L)) (dropA L (pickA s L).1.f0) hi' hp (by rw [hpk]; rfl) (by omega) hy' (fun x hx => drop_ne hi h0 hx)
    · have hall : ∀ x ∈ L, x.f0 < s.pos := fun x hx => by
        rcases Int.lt_or_le x.f0 s.pos with h | h
        · exact h
        · exact absurd (filter_pos hx (show upB s x = true from decide_eq_true h)) hf
      have hd : L.filter (dnB s) = L := List.filter_eq_self.2 (fun x hx => decide_eq_true (by have := hall x hx; omega))
      have hpk : pickA s L = (bst higB L, false) := by
        rw [scan_pick hp hy h0]
        unfold scanA
        rw [hu, hd]
        simp only [if_true, if_neg hf]
      have e1 : (pickA s L).1.f0 = (bst higB L).f0 := by rw [hpk]
      have hm := hall _ (bst_mem higB L h0)
      have ih := scan_down k (N + 1) (goA s (pickA s L)) (dropA L (pickA s L).1.f0) hi' hp (by rw [hpk]; rfl) (by omega) hy' (fun x hx => by
        obtain ⟨y, hy2, e⟩ := drop_sub hx
        have hne := drop_ne hi h0 hx
        have hle := bst_max L y hy2
        show x.f0 < (pickA s L).1.f0
        rw [e1] at hne ⊢
        omega)
      unfold runN trn
      have ed : decide (s.pos < (pickA s L).1.f0) = false := decide_eq_false (by rw [e1]; omega)
      rw [ed, if_neg (by decide)]
      show 1 + trn false (goA s (pickA s L)).pos _ ≤ 1
      rw [ih]
      omega
/-- How often it turns round, from a block on. -/
def turnsN (f : Int) : List Int → Nat
  | [] => 0
  | [_] => 0
  | x :: y :: t => (if ¬ x < y ∧ f ≤ x then 1 else 0) + trn (decide (x < y)) y t
theorem scan_turns {k N : Nat} {s : Sc} {L : List S77} (hi : Inv N s L) (hp : s.p = 3) (hu : s.up = true) (hk : L.length = k) (hy : Yng L) : turnsN s.pos (runN k s L).1 ≤ 1 := by
  cases k with
  | zero => exact Nat.zero_le _
  | succ k =>
    have h0 : 0 < L.length := by omega
    have hl := dropA_len hi h0
    have hi' := inv_next hi h0
    have hy' := yng_drop hi hy h0
    by_cases hf : 0 < (L.filter (upB s)).length
    · have hpk : pickA s L = (bst lowB (L.filter (upB s)), true) := by
        rw [scan_pick hp hy h0]
        unfold scanA
        rw [hu]
        simp [hf]
      have hmf := List.mem_filter.1 (bst_mem lowB _ hf)
      have hm : s.pos ≤ (bst lowB (L.filter (upB s))).f0 := of_decide_eq_true (show decide (s.pos ≤ (bst lowB (L.filter (upB s))).f0) = true from hmf.2)
      have e1 : (pickA s L).1.f0 = (bst lowB (L.filter (upB s))).f0 := by rw [hpk]
      have ih := scan_up k (N + 1) (goA s (pickA s L)) (dropA L (pickA s L).1.f0) hi' hp (by rw [hpk]; rfl) (by omega) hy' (fun x hx => drop_ne hi h0 hx)
      unfold runN
      show turnsN s.pos ((pickA s L).1.f0 :: (runN k (goA s (pickA s L)) (dropA L (pickA s L).1.f0)).1) ≤ 1
      have hge : s.pos ≤ (pickA s L).1.f0 := by rw [e1]; exact hm
      have ih : trn true (pickA s L).1.f0 (runN k (goA s (pickA s L)) (dropA L (pickA s L).1.f0)).1 ≤ 1 := ih
      generalize (runN k (goA s (pickA s L)) (dropA L (pickA s L).1.f0)).1 = O at *
      cases O with
      | nil => exact Nat.zero_le _
      | cons y t =>
        show (if ¬ (pickA s L).1.f0 < y ∧ s.pos ≤ (pickA s L).1.f0 then 1 else 0) + trn (decide ((pickA s L).1.f0 < y)) y t ≤ 1
        unfold trn at ih
        by_cases hxy : (pickA s L).1.f0 < y
        · rw [decide_eq_true hxy] at ih ⊢
          rw [if_neg (fun h => h.1 hxy)]
          simpa using ih
        · rw [decide_eq_false hxy] at ih ⊢
          rw [if_pos ⟨hxy, hge⟩]
          simpa using ih
    · have hall : ∀ x ∈ L, x.f0 < s.pos := fun x hx => by
        rcases Int.lt_or_le x.f0 s.pos with h | h
        · exact h
        · exact absurd (filter_pos hx (show upB s x = true from decide_eq_true h)) hf
      have hd : L.filter (dnB s) = L := List.filter_eq_self.2 (fun x hx => decide_eq_true (by have := hall x hx; omega))
      have hpk : pickA s L = (bst higB L, false) := by
        rw [scan_pick hp hy h0]
        unfold scanA
        rw [hu, hd]
        simp only [if_true, if_neg hf]
      have e1 : (pickA s L).1.f0 = (bst higB L).f0 := by rw [hpk]
      have hm := hall _ (bst_mem higB L h0)
      have ih := scan_down k (N + 1) (goA s (pickA s L)) (dropA L (pickA s L).1.f0) hi' hp (by rw [hpk]; rfl) (by omega) hy' (fun x hx => by
        obtain ⟨y, hy2, e⟩ := drop_sub hx
        have hne := drop_ne hi h0 hx
        have hle := bst_max L y hy2
        show x.f0 < (pickA s L).1.f0
        rw [e1] at hne ⊢
        omega)
      unfold runN
      show turnsN s.pos ((pickA s L).1.f0 :: (runN k (goA s (pickA s L)) (dropA L (pickA s L).1.f0)).1) ≤ 1
      have hlt : (pickA s L).1.f0 < s.pos := by rw [e1]; exact hm
      have ih : trn false (pickA s L).1.f0 (runN k (goA s (pickA s L)) (dropA L (pickA s L).1.f0)).1 = 0 := ih
      generalize (runN k (goA s (pickA s L)) (dropA L (pickA s L).1.f0)).1 = O at *
      cases O with
      | nil => exact Nat.zero_le _
      | cons y t =>
        show (if ¬ (pickA s L).1.f0 < y ∧ s.pos ≤ (pickA s L).1.f0 then 1 else 0) + trn (decide ((pickA s L).1.f0 < y)) y t ≤ 1
        unfold trn at ih
        rw [if_neg (by omega), Nat.zero_add]
        omega
theorem run_mv : ∀ (k N : Nat) (s : Sc) (L : List S77), Inv N s L → L.length = k → 0 ≤ (runN k s L).2.mv
  | 0, N, s, L, hi, hk => hi.mv.1
  | k + 1, N, s, L, hi, hk => by
    have h0 : 0 < L.length := by omega
    have hl := dropA_len hi h0
    unfold runN
    exact run_mv k (N + 1) _ _ (inv_next hi h0) (by omega)
end Go.Proofs.Ytfbjeiloefocgaa.CC
