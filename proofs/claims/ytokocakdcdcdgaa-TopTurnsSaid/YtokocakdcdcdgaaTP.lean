import Derived.Test.YtokocakdcdcdgaaPGx4
/-! The plain law of TopTurns. -/
namespace Go.Proofs.Ytokocakdcdcdgaa.PG
open Go.RowKit Go.Proofs.YtokocakdcdcdgaaW.PrintWords Go.Proofs.YtokocakdcdcdgaaW.PrintLast Go.Proofs.YtokocakdcdcdgaaW.PrintMore
attribute [local go_sem] Oper.semAt_some

theorem right_same (a b : Int) (c : ByteArray) : patch_Right.f a b c = PA.patch_Right.f a b c := rfl
theorem overlap_some (p q : S41) : ∃ b, patch_Overlap.f p.f0 p.f1 p.f2 q.f0 q.f1 q.f2 = some b := by
  unfold patch_Overlap.f
  rw [right_same, right_same, okP_is p, okP_is q]
  simp only [Option.bind_some, patch_end.f]
  repeat' split
  all_goals exact ⟨_, rfl⟩
/-- An item whose deps are smaller than its number. -/
def GoodI (i : Nat) (x : S57) : Prop := x.f1.length ≤ i ∧ ∀ d ∈ x.f1, 0 ≤ d ∧ d < (i : Int)
theorem over_l1 (l : List S41) (i : Nat) (hi : i < l.length) (hl : l.length ≤ 20) (acc : List S57) (ha : acc.length = i) : ∀ (q j : Nat) (ds : List Int), j + q = i → ds.length ≤ j → (∀ d ∈ ds, 0 ≤ d ∧ d < (j : Int)) →
    ∃ ds' : List Int, GoodI i ⟨l[i], ds'⟩ ∧ ∀ k, merge_Overlaps.l1 (k + q + 1) l acc l (l.length : Int) (i : Int) (l.take i) (i : Int) (j : Int) (l[i].f0) (l[i].f1) (l[i].f2) (l[i].f0) (l[i].f1) (l[i].f2) ds = merge_Overlaps.l0 k l (acc ++ [⟨l[i], ds'⟩]) l (l.length : Int) ((i + 1 : Nat) : Int)
  | 0, j, ds, h, h1, h2 => by
    obtain rfl : j = i := by omega
    refine ⟨ds, ⟨h1, h2⟩, fun k => ?_⟩
    have hw : wrap64 ((j : Int) + 1) = ((j + 1 : Nat) : Int) := by unfold wrap64; omega
    rw [Nat.add_zero, merge_Overlaps.l1, if_neg (by omega), if_pos (by omega), hw]
  | q + 1, j, ds, h, h1, h2 => by
    have hj : j < i := by omega
    have hw : wrap64 ((j : Int) + 1) = ((j + 1 : Nat) : Int) := by unfold wrap64; omega
    obtain ⟨b, hb⟩ := overlap_some l[i] (rd_T41 (l.take i) (j : Int))
    have step : ∀ k, merge_Overlaps.l1 (k + (q + 1) + 1) l acc l (l.length : Int) (i : Int) (l.take i) (i : Int) (j : Int) (l[i].f0) (l[i].f1) (l[i].f2) (l[i].f0) (l[i].f1) (l[i].f2) ds = merge_Overlaps.l1 (k + q + 1) l acc l (l.length : Int) (i : Int) (l.take i) (i : Int) ((j + 1 : Nat) : Int) (l[i].f0) (l[i].f1) (l[i].f2) (l[i].f0) (l[i].f1) (l[i].f2) (if b = true then ds ++ [(j : Int)] else ds) := fun k => by
      rw [show k + (q + 1) + 1 = (k + q + 1) + 1 by omega, merge_Overlaps.l1, if_pos (by omega), if_pos (by omega), if_pos (by rw [List.length_take]; omega), hb, Option.bind_some, hw]
      cases b with
      | true => rw [if_pos rfl, if_pos rfl, if_pos (by omega)]
      | false => rw [if_neg (by decide), if_neg (by decide)]
    have hlen : (if b = true then ds ++ [(j : Int)] else ds).length ≤ j + 1 := by
      split
      · rw [List.length_append, List.length_singleton]; omega
      · omega
    obtain ⟨ds', hg, hk⟩ := over_l1 l i hi hl acc ha q (j + 1) (if b = true then ds ++ [(j : Int)] else ds) (by omega) hlen (fun d hd => by
      by_cases hbt : b = true
      · rw [if_pos hbt] at hd
        rcases List.mem_append.1 hd with hd | hd
        · have := h2 d hd; omega
        · obtain rfl := List.mem_singleton.1 hd; omega
      · rw [if_neg hbt] at hd
        have := h2 d hd; omega)
    exact ⟨ds', hg, fun k => by rw [step k, hk k]⟩
theorem over_l0 (l : List S41) (hl : l.length ≤ 20) : ∀ (q i : Nat) (acc : List S57), i + q = l.length → acc.length = i → (∀ j (h : j < acc.length), GoodI j acc[j] ∧ okP acc[j].f0 = true) → (∀ p ∈ l, okP p = true) →
    ∃ (items : List S57) (k : Nat), items.length = l.length ∧ (∀ j (h : j < items.length), GoodI j items[j] ∧ okP items[j].f0 = true) ∧ merge_Overlaps.l0 k l acc l (l.length : Int) (i : Int) = some items
  | 0, i, acc, h, ha, hg, hp => by
    refine ⟨acc, 1, by omega, hg, ?_⟩
    rw [merge_Overlaps.l0, if_neg (by omega)]
  | q + 1, i, acc, h, ha, hg, hp => by
    have hi : i < l.length := by omega
    obtain ⟨ds', hgi, hk⟩ := over_l1 l i hi hl acc ha i 0 [] (by omega) (by simp) (by simp)
    obtain ⟨items, k, h1, h2, h3⟩ := over_l0 l hl q (i + 1) (acc ++ [⟨l[i], ds'⟩]) (by omega) (by simp; omega) (fun j hj => by
      by_cases hji : j < acc.length
      · rw [List.getElem_append_left hji]; exact hg j hji
      · have : j = acc.length := by simp at hj; omega
        subst this
        rw [List.getElem_append_right (Nat.le_refl _)]
        simp only [Nat.sub_self, List.getElem_cons_zero]
        rw [ha]
        exact ⟨hgi, hp _ (List.getElem_mem hi)⟩) hp
    refine ⟨items, (k + i + 1) + 1, h1, h2, ?_⟩
    have hx : rd_T41 l (i : Int) = l[i] := by simp [rd_T41, List.getD_eq_getElem?_getD, hi]
    rw [merge_Overlaps.l0, if_pos (by omega), if_pos (by omega), if_pos (by omega), if_pos (by omega), Option.bind_some, hx, Int.toNat_natCast, show ((l.take i).length : Int) = (i : Int) by rw [List.length_take]; omega]
    exact (hk k).trans h3
/-- Items as Overlaps answers them. -/
def ItemsOk (items : List S57) : Prop := items.length ≤ 20 ∧ ∀ j (h : j < items.length), GoodI j items[j] ∧ okP items[j].f0 = true
theorem over_is (l : List S41) (hl : l.length ≤ 20) : ∃ items k, merge_Overlaps.f k l = some items ∧ ItemsOk items := by
  by_cases hany : l.any (fun p => !okP p) = true
  · refine ⟨[], 1, ?_, by simp [ItemsOk]⟩
    unfold merge_Overlaps.f api_Patch.f
    rw [if_neg (by omega), if_pos (by omega), Option.bind_some, hany, merge_Overlaps.j0, if_pos rfl]
  · have hp : ∀ p ∈ l, okP p = true := fun p h => by
      cases ho : okP p with
      | true => rfl
      | false => exact absurd (List.any_eq_true.2 ⟨p, h, by rw [ho]; rfl⟩) hany
    obtain ⟨items, k, h1, h2, h3⟩ := over_l0 l hl l.length 0 [] (by omega) rfl (fun j h => by simp at h) hp
    refine ⟨items, k + 1, ?_, by omega, h2⟩
    unfold merge_Overlaps.f api_Patch.f
    rw [if_neg (by omega), if_pos (by omega), Option.bind_some, merge_Overlaps.j0, if_neg hany, if_pos (by omega), if_pos (by omega)]
    exact h3
theorem depsOf_l0 (items : List S57) (hl : items.length ≤ 20) : ∀ (q j : Nat) (acc : List (List Int)), j + q = items.length → acc = (items.map (·.f1)).take j → selvedgetop_depsOf.l0 (q + 1) items acc (j : Int) = some (items.map (·.f1))
  | 0, j, acc, h, ha => by
    rw [selvedgetop_depsOf.l0, if_neg (by omega), ha, List.take_of_length_le (by simp; omega)]
  | q + 1, j, acc, h, ha => by
    have hj : j < items.length := by omega
    have hw : wrap64 ((j : Int) + 1) = ((j + 1 : Nat) : Int) := by unfold wrap64; omega
    have hx : (rd_T57 items (j : Int)).f1 = (items.map (·.f1))[j]'(by simpa using hj) := by simp [rd_T57, List.getD_eq_getElem?_getD, hj]
    have hal : acc.length ≤ 20 := by rw [ha, List.length_take]; simp; omega
    rw [selvedgetop_depsOf.l0, if_pos (by omega), if_pos (by omega), if_pos (by omega), hw, hx]
    exact depsOf_l0 items hl q (j + 1) _ (by omega) (by rw [List.take_succ_eq_append_getElem (by simpa using hj), ha])
theorem dom_items {items : List S57} (h : ItemsOk items) : Dom (items.map (·.f1)) := by
  refine ⟨by rw [List.length_map]; have := h.1; omega, fun i hi => ?_⟩
  rw [List.length_map] at hi
  have e : (items.map (·.f1)).getD i [] = items[i].f1 := by simp [List.getD_eq_getElem?_getD, hi]
  rw [e]
  have hg := (h.2 i hi).1
  exact ⟨by have := hg.1; have := h.1; omega, hg.2⟩
theorem nodup_len : ∀ (n : Nat) (s : List Int), s.Nodup → (∀ x ∈ s, 0 ≤ x ∧ x < (n : Int)) → s.length ≤ n
  | 0, s, hn, hr => by
    cases s with
    | nil => simp
    | cons x t => have := hr x (by simp); omega
  | n + 1, s, hn, hr => by
    have h1 : (s.erase (n : Int)).length ≤ n := nodup_len n _ (hn.erase _) (fun x hx => by
      have h2 := hr x (List.mem_of_mem_erase hx)
      have h3 : x ≠ (n : Int) := ((List.Nodup.mem_erase_iff hn).1 hx).1
      omega)
    have := List.length_erase (a := (n : Int)) (l := s)
    split at this <;> omega
/-- What has come: each once, and with all that must come ahead. -/
def DoneOk (d : List (List Int)) (done : List Int) : Prop := done.Nodup ∧ ClosedS d done
theorem ready_step {d : List (List Int)} {done : List Int} (h : DoneOk d done) (X : Nat) (hX : X < d.length) : ∃ r, graph_Ready.f d done [(X : Int)] = some r ∧ r.length ≤ 1 ∧ DoneOk d (done ++ r) ∧ ((∀ y ∈ d.getD X [], done.contains y = true) → (X : Int) ∈ done ++ r) := by
  have hR : ReadyS d done (X : Int) := ⟨h.2.1, h.2.2.1, fun y hy => ⟨(h.2.2.2 y hy).1, (h.2.2.2 y hy).2.1⟩, by omega, by omega⟩
  refine ⟨_, if_pos hR, by split <;> simp, ?_, ?_⟩
  · by_cases hc : canS d done (X : Int) = true
    · rw [if_pos hc]
      unfold canS at hc
      rw [Bool.and_eq_true, Bool.not_eq_true', Bool.not_eq_true', Int.toNat_natCast] at hc
      have hx : (X : Int) ∉ done := fun hm => by rw [List.contains_iff_mem.2 hm] at hc; exact absurd hc.1 (by decide)
      have hdeps : ∀ y ∈ d.getD X [], done.contains y = true := fun y hy => by
        cases hcy : done.contains y with
        | true => rfl
        | false =>
          have hq := List.any_eq_false.1 hc.2 y hy
          rw [hcy] at hq
          exact absurd rfl hq
      have hnd : (done ++ [(X : Int)]).Nodup := by
        rw [List.nodup_append]
        exact ⟨h.1, by simp, fun a ha b hb e => by obtain rfl := List.mem_singleton.1 hb; exact hx (e ▸ ha)⟩
      have hcl : ∀ x ∈ done ++ [(X : Int)], 0 ≤ x ∧ x < (d.length : Int) ∧ ∀ y ∈ d.getD x.toNat [], (done ++ [(X : Int)]).contains y = true := fun x hx => by
        rcases List.mem_append.1 hx with hx | hx
        · obtain ⟨q1, q2, q3⟩ := h.2.2.2 x hx
          exact ⟨q1, q2, fun y hy => List.contains_iff_mem.2 (List.mem_append_left _ (List.contains_iff_mem.1 (q3 y hy)))⟩
        · obtain rfl := List.mem_singleton.1 hx
          exact ⟨by omega, by omega, fun y hy => List.contains_iff_mem.2 (List.mem_append_left _ (List.contains_iff_mem.1 (hdeps y hy)))⟩
      exact ⟨hnd, h.2.1, Nat.le_trans (nodup_len d.length _ hnd (fun x hx => ⟨(hcl x hx).1, (hcl x hx).2.1⟩)) h.2.1.1, hcl⟩
    · rw [if_neg hc, List.append_nil]; exact h
  · intro hdeps
    by_cases hm : (X : Int) ∈ done
    · exact List.mem_append_left _ hm
    · have hc : canS d done (X : Int) = true := by
        unfold canS
        rw [Bool.and_eq_true, Bool.not_eq_true', Bool.not_eq_true', Int.toNat_natCast]
        refine ⟨by cases hq : done.contains (X : Int) with | true => exact absurd (List.contains_iff_mem.1 hq) hm | false => rfl, ?_⟩
        rw [List.any_eq_false]
        intro y hy
        rw [hdeps y hy]; decide
      rw [if_pos hc]
      exact List.mem_append_right _ (by simp)
theorem sub_len : ∀ (A B : List Int), A.Nodup → (∀ x ∈ A, x ∈ B) → A.length ≤ B.length
  | [], B, _, _ => Nat.zero_le _
  | x :: t, B, hn, hs => by
    have hx : x ∈ B := hs x (by simp)
    have h1 := sub_len t (B.erase x) (List.nodup_cons.1 hn).2 (fun y hy => by
      have hne : y ≠ x := fun e => (List.nodup_cons.1 hn).1 (e ▸ hy)
      exact (List.mem_erase_of_ne hne).2 (hs y (List.mem_cons_of_mem _ hy)))
    have h2 := List.length_erase_of_mem hx
    have h3 := List.length_pos_of_mem hx
    rw [List.length_cons]
    omega
theorem turns_l1 (items : List S57) (hI : ItemsOk items) : ∀ (q i : Nat) (done : List Int), i + q = items.length → DoneOk (items.map (·.f1)) done → (∀ j : Nat, j < i → (j : Int) ∈ done) → selvedgetop_TopTurns.l1 (q + 1) items (items.map (·.f1)) done (i : Int) = some true
  | 0, i, done, h, hd, ha => by
    have hle : done.length ≤ items.length := nodup_len _ _ hd.1 (fun x hx => by have := hd.2.2.2 x hx; rw [List.length_map] at this; exact ⟨this.1, this.2.1⟩)
    have hge : items.length ≤ done.length := by
      have := sub_len ((List.range items.length).map Int.ofNat) done (List.Pairwise.map _ (fun a b hab e => hab (Int.ofNat.inj e)) List.nodup_range) (fun x hx => by
        obtain ⟨j, hj, rfl⟩ := List.mem_map.1 hx
        exact ha j (by have := List.mem_range.1 hj; omega))
      simpa using this
    rw [selvedgetop_TopTurns.l1, if_neg (by omega), if_pos (by omega), show graph_Right.f (items.map (·.f1)) = some true from if_pos (dom_items hI), Option.bind_some, if_pos rfl,
      show merge_Right.f items = some true from if_pos ⟨by have := hI.1; omega, fun x hx => by obtain ⟨j, hj, rfl⟩ := List.mem_iff_getElem.1 hx; exact (hI.2 j hj).2, dom_items hI⟩]
    rfl
  | q + 1, i, done, h, hd, ha => by
    have hi : i < items.length := by omega
    have hw : wrap64 ((i : Int) + 1) = ((i + 1 : Nat) : Int) := by unfold wrap64; have := hI.1; omega
    obtain ⟨r, h1, h2, h3, h4⟩ := ready_step hd i (by rw [List.length_map]; exact hi)
    have hdl := hd.2.2.1
    rw [selvedgetop_TopTurns.l1, if_pos (by omega), h1, Option.bind_some, if_pos (by omega), hw]
    refine turns_l1 items hI q (i + 1) _ (by omega) h3 (fun j hj => ?_)
    by_cases hji : j < i
    · exact List.mem_append_left _ (ha j hji)
    · obtain rfl : j = i := by omega
      exact h4 (fun y hy => List.contains_iff_mem.2 (by
        have hr := ((dom_items hI).2 j (by rw [List.length_map]; exact hi)).2 y hy
        have := ha y.toNat (by omega)
        rwa [show ((y.toNat : Nat) : Int) = y by omega] at this))
theorem turns_stop (items : List S57) (hI : ItemsOk items) (order : List Int) (i : Nat) (done : List Int) (hd : DoneOk (items.map (·.f1)) done) (hs : ¬ (i < order.length ∧ i < 60 ∧ 0 < items.length)) : ∃ k, selvedgetop_TopTurns.l0 k order items (items.map (·.f1)) done (i : Int) = some true := by
  have hend : selvedgetop_TopTurns.j2 (items.length + 2) order items (items.map (·.f1)) done (i : Int) false = some true := by
    rw [selvedgetop_TopTurns.j2, if_neg (by decide)]
    exact turns_l1 items hI items.length 0 done (by omega) hd (fun j hj => by omega)
  refine ⟨items.length + 3, ?_⟩
  rw [selvedgetop_TopTurns.l0]
  by_cases g1 : i < order.length
  · rw [if_pos (by omega)]
    by_cases g2 : i < 60
    · have g3 : ¬ (items.length : Int) > 0 := by omega
      rw [if_pos (by omega), decide_eq_false g3]
      exact hend
    · rw [if_neg (by omega)]; exact hend
  · rw [if_neg (by omega)]; exact hend
theorem turns_step (items : List S57) (order : List Int) (i : Nat) (done r : List Int) (X : Int)
    (c1 : (i : Int) < (order.length : Int)) (c2 : (i : Int) < 60) (c3 : (0 : Int) ≤ (i : Int)) (c4 : ¬ (items.length : Int) = 0) (g4 : (items.length : Int) > 0) (c5 : done.length + r.length < 17592186044416)
    (ht : Int.tmod (wrap64 (rd order (i : Int))) (items.length : Int) = X) (h1 : graph_Ready.f (items.map (·.f1)) done [X] = some r) (hcl : graph_Closed.f (items.map (·.f1)) (done ++ r) = some true) (hw : wrap64 ((i : Int) + 1) = ((i + 1 : Nat) : Int)) (k : Nat) :
    selvedgetop_TopTurns.l0 (k + 2) order items (items.map (·.f1)) done (i : Int) = selvedgetop_TopTurns.l0 k order items (items.map (·.f1)) (done ++ r) ((i + 1 : Nat) : Int) := by
  rw [selvedgetop_TopTurns.l0, if_pos c1, if_pos c2, decide_eq_true g4, selvedgetop_TopTurns.j2, if_pos rfl, if_pos c3, if_pos c1, if_neg c4, ht, h1, Option.bind_some, if_pos c5, Option.bind_some, hcl, Option.bind_some, if_pos rfl, hw]
theorem turns_num (i n m : Nat) (g1 : i < m) (g2 : i < 60) (g3 : 0 < n) : (i : Int) < (m : Int) ∧ (i : Int) < 60 ∧ (0 : Int) ≤ (i : Int) ∧ ¬ (n : Int) = 0 ∧ (n : Int) > 0 ∧ wrap64 ((i : Int) + 1) = ((i + 1 : Nat) : Int) := by
  refine ⟨by omega, by omega, by omega, by omega, by omega, ?_⟩
  unfold wrap64; omega
theorem turns_mod (a : Int) (n : Nat) (g3 : 0 < n) (h0 : 0 ≤ a) (h1 : a < 256) : ∃ X : Nat, X < n ∧ Int.tmod (wrap64 a) (n : Int) = (X : Int) := by
  have hwy : wrap64 a = a := by unfold wrap64; omega
  have e : a % (n : Int) = ((a % (n : Int)).toNat : Int) := (Int.toNat_of_nonneg (Int.emod_nonneg a (by omega))).symm
  refine ⟨(a % (n : Int)).toNat, ?_, ?_⟩
  · have := Int.emod_lt_of_pos a (show (0 : Int) < n by omega); omega
  · rw [hwy, Int.tmod_eq_emod_of_nonneg h0]; exact e
theorem turns_go (items : List S57) (_hI : ItemsOk items) (order : List Int) (ho : ∀ y ∈ order, 0 ≤ y ∧ y < 256) (i : Nat) (done : List Int) (hd : DoneOk (items.map (·.f1)) done) (g1 : i < order.length) (g2 : i < 60) (g3 : 0 < items.length) :
    ∃ r, DoneOk (items.map (·.f1)) (done ++ r) ∧ ∀ k, selvedgetop_TopTurns.l0 (k + 2) order items (items.map (·.f1)) done (i : Int) = selvedgetop_TopTurns.l0 k order items (items.map (·.f1)) (done ++ r) ((i + 1 : Nat) : Int) := by
  have hx : rd order (i : Int) = order[i] := by simp [rd, List.getD_eq_getElem?_getD, g1]
  have hy := ho order[i] (List.getElem_mem g1)
  obtain ⟨X, hXn, ht⟩ := turns_mod order[i] items.length g3 hy.1 hy.2
  rw [← hx] at ht
  obtain ⟨r, h1, h2, h3, h4⟩ := ready_step hd X (by rw [List.length_map]; exact hXn)
  have hdl : done.length + r.length < 17592186044416 := Nat.lt_of_le_of_lt (Nat.add_le_add hd.2.2.1 h2) (by decide)
  obtain ⟨c1, c2, c3, c4, c5, hw⟩ := turns_num i items.length order.length g1 g2 g3
  exact ⟨r, h3, turns_step items order i done r X c1 c2 c3 c4 c5 hdl ht h1 (if_pos h3.2) hw⟩
theorem turns_l0 (items : List S57) (hI : ItemsOk items) (order : List Int) (ho : ∀ y ∈ order, 0 ≤ y ∧ y < 256) (q : Nat) : ∀ (i : Nat) (done : List Int), i + q = 61 → DoneOk (items.map (·.f1)) done → ∃ k, selvedgetop_TopTurns.l0 k order items (items.map (·.f1)) done (i : Int) = some true := by
  induction q with
  | zero => exact fun i done h hd => turns_stop items hI order i done hd (by omega)
  | succ q ih =>
    intro i done h hd
    by_cases hs : i < order.length ∧ i < 60 ∧ 0 < items.length
    · obtain ⟨r, h3, hk⟩ := turns_go items hI order ho i done hd hs.1 hs.2.1 hs.2.2
      obtain ⟨k, hk2⟩ := ih (i + 1) (done ++ r) (by omega) h3
      exact ⟨k + 2, (hk k).trans hk2⟩
    · exact turns_stop items hI order i done hd hs
end Go.Proofs.Ytokocakdcdcdgaa.PG
