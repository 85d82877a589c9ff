import Derived.Test.YtlmnagbfmkaglaaRC
import Derived.Test.YtlmnagbfmkaglaaRB
import Derived.Test.YtlmnagbfmkaglaaC10
/-! The plain law: both caches are one list, from the hand on. -/
namespace Go.Proofs.Ytlmnagbfmkaglaa.CC
open Go.RowKit Go.Proofs.Ytlmnagbfmkaglaa.PG
def cv (x : S59) : S71 := ⟨x.f0, x.f1, x.f2, x.f3⟩
theorem cv_f0 (x : S59) : (cv x).f0 = x.f0 := rfl
theorem cv_goes (x : S59) : goesB (cv x) = canB x := rfl
/-! ### where a block is -/
theorem ix_none {row : List S59} {b : Int} (h : ∀ x ∈ row, x.f0 ≠ b) : ix row b = -1 := ix_miss fun x hx => by simpa using h x hx
theorem ix_some {row : List S59} {b : Int} {n : Nat} (h : ix row b = (n : Int)) : ∃ hlt : n < row.length, row[n].f0 = b ∧ ∀ x ∈ row.take n, x.f0 ≠ b := by
  have hlt : n < row.length := by rcases ix_range row b with h | h <;> omega
  refine ⟨hlt, ?_⟩
  unfold ix at h
  split at h
  · next hl =>
    have e : row.findIdx (fun x => x.f0 == b) = n := by omega
    have h2 := (List.findIdx_eq hlt).1 e
    refine ⟨by simpa using h2.1, fun x hx => ?_⟩
    obtain ⟨j, hj, rfl⟩ := List.mem_iff_getElem.1 hx
    rw [List.length_take] at hj
    rw [List.getElem_take]
    simpa using h2.2 j (by omega)
  · omega
theorem ix_neg {row : List S59} {b : Int} (h : ix row b < 0) : ∀ x ∈ row, x.f0 ≠ b := fun x hx e => by
  have := ix_mem (row := row) (b := b) ⟨x, hx, by simpa using e⟩
  omega
theorem ix_pos {row : List S59} {b : Int} : 0 ≤ ix row b ↔ ∃ x ∈ row, x.f0 = b := by
  refine ⟨fun h => ?_, fun ⟨x, hx, e⟩ => ix_mem ⟨x, hx, by simpa using e⟩⟩
  obtain ⟨n, hn⟩ := Int.eq_ofNat_of_zero_le h
  obtain ⟨hlt, h1, -⟩ := ix_some hn
  exact ⟨_, List.getElem_mem hlt, h1⟩
theorem ixR_cv (row : List S59) (b : Int) : ixR (row.map cv) b = ix row b := by
  unfold ixR ix
  rw [List.findIdx_map, List.length_map]
  rfl
/-- The frame of a block. -/
def atL (row : List S59) (b : Int) : S59 := row.getD (ix row b).toNat z59
theorem nd_eq : ∀ {row : List S59} {x y : S59}, (row.map (·.f0)).Nodup → x ∈ row → y ∈ row → x.f0 = y.f0 → x = y
  | a :: t, x, y, hn, hx, hy, e => by
    rw [List.map_cons, List.nodup_cons] at hn
    rcases List.mem_cons.1 hx with hx1 | hx1
    · rcases List.mem_cons.1 hy with hy1 | hy1
      · rw [hx1, hy1]
      · exact absurd (List.mem_map.2 ⟨y, hy1, by rw [← e, hx1]⟩) hn.1
    · rcases List.mem_cons.1 hy with hy1 | hy1
      · exact absurd (List.mem_map.2 ⟨x, hx1, by rw [e, hy1]⟩) hn.1
      · exact nd_eq hn.2 hx1 hy1 e
theorem atL_mem {row : List S59} {b : Int} (h : 0 ≤ ix row b) : atL row b ∈ row ∧ (atL row b).f0 = b := by
  obtain ⟨n, hn⟩ := Int.eq_ofNat_of_zero_le h
  obtain ⟨hlt, h1, -⟩ := ix_some hn
  unfold atL
  rw [hn, Int.toNat_natCast, getD_at _ _ hlt]
  exact ⟨List.getElem_mem hlt, h1⟩
theorem atL_eq {row : List S59} {b : Int} (hn : (row.map (·.f0)).Nodup) {x : S59} (hx : x ∈ row) (e : x.f0 = b) : atL row b = x := by
  have h := atL_mem (row := row) (b := b) (ix_pos.2 ⟨x, hx, e⟩)
  exact nd_eq hn h.1 hx (h.2.trans e.symm)
/-- A block's frame is turned. -/
def updL (b : Int) (f : S59 → S59) (row : List S59) : List S59 := row.map fun x => if x.f0 = b then f x else x
theorem set_upd {f : S59 → S59} {b : Int} : ∀ {row : List S59} {n : Nat}, (row.map (·.f0)).Nodup → (h : n < row.length) → row[n].f0 = b → row.set n (f row[n]) = updL b f row
  | a :: t, 0, hn, _, hb => by
    rw [List.map_cons, List.nodup_cons] at hn
    simp only [List.getElem_cons_zero] at hb
    simp only [updL, List.set_cons_zero, List.getElem_cons_zero, List.map_cons, hb, if_true]
    congr 1
    refine (List.map_id t).symm.trans (List.map_congr_left fun x hx => ?_)
    rw [if_neg]; rfl
    intro e
    exact hn.1 (List.mem_map.2 ⟨x, hx, e.trans hb.symm⟩)
  | a :: t, n + 1, hn, h, hb => by
    rw [List.map_cons, List.nodup_cons] at hn
    simp only [List.getElem_cons_succ] at hb
    have ha : a.f0 ≠ b := fun e => hn.1 (List.mem_map.2 ⟨_, List.getElem_mem (by simpa using h), hb.trans e.symm⟩)
    simp only [updL, List.set_cons_succ, List.getElem_cons_succ, List.map_cons, if_neg ha]
    congr 1
    exact set_upd hn.2 (by simpa using h) hb
theorem set_ix {f : S59 → S59} {b : Int} {row : List S59} (hn : (row.map (·.f0)).Nodup) (h : 0 ≤ ix row b) : row.set (ix row b).toNat (f (row.getD (ix row b).toNat z59)) = updL b f row := by
  obtain ⟨n, hnn⟩ := Int.eq_ofNat_of_zero_le h
  obtain ⟨hlt, h1, -⟩ := ix_some hnn
  rw [hnn, Int.toNat_natCast, getD_at _ _ hlt]
  exact set_upd hn hlt h1
theorem keep_ix {b : Int} : ∀ {row : List S59} {n : Nat}, (row.map (·.f0)).Nodup → (h : n < row.length) → row[n].f0 = b → row.filter (keepB b) = row.take n ++ row.drop (n + 1)
  | a :: t, 0, hn, _, hb => by
    rw [List.map_cons, List.nodup_cons] at hn
    simp only [List.getElem_cons_zero] at hb
    rw [List.filter_cons_of_neg (by simp [keepB, hb])]
    simp only [List.take_zero, List.nil_append, List.drop_succ_cons, List.drop_zero]
    refine List.filter_eq_self.2 fun x hx => ?_
    have : x.f0 ≠ b := fun e => hn.1 (List.mem_map.2 ⟨x, hx, e.trans hb.symm⟩)
    simp [keepB, this]
  | a :: t, n + 1, hn, h, hb => by
    rw [List.map_cons, List.nodup_cons] at hn
    simp only [List.getElem_cons_succ] at hb
    have ha : a.f0 ≠ b := fun e => hn.1 (List.mem_map.2 ⟨_, List.getElem_mem (by simpa using h), hb.trans e.symm⟩)
    rw [List.filter_cons_of_pos (by simp [keepB, ha]), keep_ix hn.2 (by simpa using h) hb]
    simp
/-! ### from the hand on -/
theorem rot_perm (row : List S59) (h : Nat) : (rot row h).Perm row := by
  unfold rot
  exact List.perm_append_comm.trans (by rw [List.take_append_drop])
theorem rot_len (row : List S59) (h : Nat) : (rot row h).length = row.length := (rot_perm row h).length_eq
theorem rot_map (f : S59 → S59) (row : List S59) (h : Nat) : rot (row.map f) h = (rot row h).map f := by simp [rot, List.map_drop, List.map_take]
theorem rot_upd (b : Int) (f : S59 → S59) (row : List S59) (h : Nat) : rot (updL b f row) h = updL b f (rot row h) := rot_map _ row h
theorem rot_zero (row : List S59) : rot row 0 = row := by simp [rot]
theorem rot_nd {row : List S59} {h : Nat} : ((rot row h).map (·.f0)).Nodup ↔ (row.map (·.f0)).Nodup := ((rot_perm row h).map _).nodup_iff
theorem rot_mem {row : List S59} {h : Nat} {x : S59} : x ∈ rot row h ↔ x ∈ row := (rot_perm row h).mem_iff
theorem rot_ix {row : List S59} {h : Nat} {b : Int} : 0 ≤ ix (rot row h) b ↔ 0 ≤ ix row b := by
  rw [ix_pos, ix_pos]
  exact ⟨fun ⟨x, hx, e⟩ => ⟨x, rot_mem.1 hx, e⟩, fun ⟨x, hx, e⟩ => ⟨x, rot_mem.2 hx, e⟩⟩
theorem rot_at {row : List S59} {h : Nat} {b : Int} (hn : (row.map (·.f0)).Nodup) (hi : 0 ≤ ix row b) : atL (rot row h) b = atL row b :=
  atL_eq (rot_nd.2 hn) (rot_mem.2 (atL_mem hi).1) (atL_mem hi).2
theorem rot_any {row : List S59} {h : Nat} (p : S59 → Bool) : (rot row h).any p = row.any p := by
  rw [Bool.eq_iff_iff, List.any_eq_true, List.any_eq_true]
  exact ⟨fun ⟨x, hx, e⟩ => ⟨x, rot_mem.1 hx, e⟩, fun ⟨x, hx, e⟩ => ⟨x, rot_mem.2 hx, e⟩⟩
theorem rot_cons {row : List S59} {h : Nat} (hh : h < row.length) : rot row h = row[h] :: (row.drop (h + 1) ++ row.take h) := by
  unfold rot
  rw [List.drop_eq_getElem_cons hh]
  rfl
theorem rot_next {row : List S59} {h : Nat} (hh : h < row.length) (y : S59) : rot (row.set h y) ((h + 1) % row.length) = (row.drop (h + 1) ++ row.take h) ++ [y] := by
  by_cases hl : h + 1 = row.length
  · rw [hl, Nat.mod_self, rot_zero, List.drop_length, List.nil_append]
    rw [List.set_eq_take_append_cons_drop, if_pos hh, hl, List.drop_length]
  · rw [Nat.mod_eq_of_lt (by omega)]
    unfold rot
    rw [List.drop_set_of_lt (by omega), List.take_succ_eq_append_getElem (by rw [List.length_set]; exact hh), List.take_set_of_le (Nat.le_refl _), List.getElem_set_self, List.append_assoc]
end Go.Proofs.Ytlmnagbfmkaglaa.CC
/-! The plain law: what becomes of the list. -/
namespace Go.Proofs.Ytlmnagbfmkaglaa.CC
open Go.RowKit Go.Proofs.Ytlmnagbfmkaglaa.PG
def clr (x : S59) : S59 := ⟨x.f0, x.f1, x.f2, false⟩
def stops (x : S59) : Bool := canB x && !x.f3
theorem stops_iff (x : S59) : stops x = true ↔ (canB x = true ∧ x.f3 = false) := by simp [stops]
def turnL : Nat → List S59 → Option (List S59)
  | 0, _ => none
  | _ + 1, [] => none
  | k + 1, x :: t => if canB x = true ∧ x.f3 = false then some (x :: t) else turnL k (t ++ [clr x])
theorem turnR_cv : ∀ (k : Nat) (L : List S59), turnR k (L.map cv) = (turnL k L).map (List.map cv)
  | 0, _ => rfl
  | _ + 1, [] => rfl
  | k + 1, x :: t => by
    simp only [List.map_cons, turnR, turnL]
    by_cases h : canB x = true ∧ x.f3 = false
    · rw [if_pos h, if_pos (show goesB (cv x) = true ∧ (cv x).f3 = false from h)]; rfl
    · rw [if_neg h, if_neg (show ¬ (goesB (cv x) = true ∧ (cv x).f3 = false) from h), ← turnR_cv k]
      simp [cv, clr]
theorem turn_pass : ∀ (p q : List S59) (k : Nat), (∀ x ∈ p, stops x = false) → turnL (p.length + k) (p ++ q) = turnL k (q ++ p.map clr)
  | [], q, k, _ => by simp
  | x :: p, q, k, h => by
    have hx : ¬ (canB x = true ∧ x.f3 = false) := fun e => by have := h x (by simp); rw [(stops_iff x).2 e] at this; cases this
    rw [List.length_cons, show p.length + 1 + k = (p.length + k) + 1 by omega, List.cons_append, turnL, if_neg hx, List.append_assoc, turn_pass p _ k (fun y hy => h y (List.mem_cons_of_mem _ hy)), List.append_assoc]
    rfl
theorem turn_stop (L : List S59) (k : Nat) (hk : L.length ≤ k) (h : ∃ x ∈ L, stops x = true) : ∃ x t, turnL k L = some (x :: t) := by
  have hne : L.dropWhile (fun x => !stops x) ≠ [] := fun e => by
    obtain ⟨x, hx, hs⟩ := h
    rw [← List.takeWhile_append_dropWhile (p := fun x => !stops x) (l := L), e, List.append_nil] at hx
    have := List.all_eq_true.1 (List.all_takeWhile (p := fun x => !stops x) (l := L)) x hx
    simp [hs] at this
  obtain ⟨x, t, ht⟩ := List.exists_cons_of_ne_nil hne
  have hs : stops x = true := by
    have := List.head_dropWhile_not (p := fun x => !stops x) (l := L) hne
    simp only [ht, List.head_cons] at this
    simpa using this
  have hL : L = L.takeWhile (fun x => !stops x) ++ (x :: t) := by rw [← ht]; exact List.takeWhile_append_dropWhile.symm
  have hlen : (L.takeWhile (fun x => !stops x)).length + (t.length + 1) = L.length := by
    have := congrArg List.length hL
    simp at this
    omega
  refine ⟨x, t ++ (L.takeWhile (fun x => !stops x)).map clr, ?_⟩
  conv => lhs; rw [hL]
  obtain ⟨m, hm⟩ : ∃ m, k = (L.takeWhile (fun x => !stops x)).length + (m + 1) := ⟨k - (L.takeWhile (fun x => !stops x)).length - 1, by omega⟩
  rw [hm, turn_pass _ _ _ (fun y hy => by simpa using List.all_eq_true.1 (List.all_takeWhile (p := fun x => !stops x) (l := L)) y hy), List.cons_append, turnL, if_pos ((stops_iff x).1 hs)]
theorem turn_ok (L : List S59) (h : L.any canB = true) : ∃ x t, turnL (2 * L.length + 1) L = some (x :: t) := by
  by_cases hs : ∃ x ∈ L, stops x = true
  · exact turn_stop L _ (by omega) hs
  · have hp := turn_pass L [] (L.length + 1) (fun x hx => by
      cases e : stops x with
      | false => rfl
      | true => exact absurd ⟨x, hx, e⟩ hs)
    rw [List.append_nil, List.nil_append] at hp
    rw [show 2 * L.length + 1 = L.length + (L.length + 1) by omega, hp]
    refine turn_stop _ _ (by simp) ?_
    rw [List.any_eq_true] at h
    obtain ⟨x, hx, hc⟩ := h
    refine ⟨clr x, List.mem_map_of_mem hx, ?_⟩
    rw [stops_iff]
    exact ⟨hc, rfl⟩
/-- What is turned is the same, but for what was touched. -/
theorem turn_keeps : ∀ (k : Nat) (L l : List S59), turnL k L = some l → (l.map clr).Perm (L.map clr)
  | 0, _, _, h => by simp [turnL] at h
  | _ + 1, [], _, h => by simp [turnL] at h
  | k + 1, x :: t, l, h => by
    simp only [turnL] at h
    split at h
    · obtain rfl := Option.some.inj h
      exact List.Perm.refl _
    · refine (turn_keeps k _ _ h).trans ?_
      rw [List.map_append]
      refine List.perm_append_comm.trans ?_
      exact List.Perm.refl _
theorem turn_head : ∀ (k : Nat) (L : List S59) (x : S59) (t : List S59), turnL k L = some (x :: t) → canB x = true
  | 0, _, _, _, h => by simp [turnL] at h
  | _ + 1, [], _, _, h => by simp [turnL] at h
  | k + 1, y :: s, x, t, h => by
    simp only [turnL] at h
    split at h
    · next hc =>
      injection h with h
      injection h with h1 h2
      exact h1 ▸ hc.1
    · exact turn_head k _ _ _ h
theorem clk_turn : ∀ (k : Nat) (row : List S59) (h : Nat) (y x : S59) (t : List S59), h < row.length → turnL k (rot row h) = some (x :: t) →
    ∃ row' h', clk k row h y = ((x.f0, 0), row', h') ∧ h' < row'.length ∧ rot row' h' = t ++ [y]
  | 0, _, _, _, _, _, _, h => by simp [turnL] at h
  | k + 1, row, h, y, x, t, hh, hT => by
    rw [rot_cons hh, turnL] at hT
    simp only [clk, getD_at _ _ hh]
    by_cases hc : canB row[h] = true ∧ row[h].f3 = false
    · rw [if_pos hc] at hT ⊢
      injection hT with hT
      injection hT with h1 h2
      refine ⟨_, _, by rw [h1], by rw [List.length_set]; exact Nat.mod_lt _ (by omega), ?_⟩
      rw [rot_next hh, h2]
    · rw [if_neg hc] at hT ⊢
      have e := rot_next hh (clr row[h])
      rw [← e] at hT
      have hl : (row.set h (clr row[h])).length = row.length := List.length_set ..
      exact clk_turn k (row.set h (clr row[h])) ((h + 1) % row.length) y x t (by rw [hl]; exact Nat.mod_lt _ (by omega)) hT
/-! ### deeds on the list -/
def touch (x : S59) : S59 := ⟨x.f0, x.f1, x.f2, true⟩
def useL (most : Int) (L : List S59) (b : Int) : (Int × Int) × List S59 :=
  if b < 0 ∨ 96 ≤ b then ((-1, 2), L)
  else if 0 ≤ ix L b then ((-1, 0), updL b touch L)
  else if (L.length : Int) < most then ((-1, 0), L ++ [inF b])
  else if L.any canB = false then ((-1, 11), L)
  else match turnL (2 * L.length + 1) L with
    | some (x :: t) => ((x.f0, 0), t ++ [inF b])
    | _ => ((-1, 11), L)
def pinL (L : List S59) (b : Int) (on : Bool) : Int × List S59 := if ix L b < 0 then (5, L) else ((pin1 (atL L b) on).1, updL b (fun x => (pin1 x on).2) L)
def dirtyL (L : List S59) (b : Int) (on : Bool) : Int × List S59 := if ix L b < 0 then (5, L) else (0, updL b (fun x => ⟨x.f0, x.f1, on, x.f3⟩) L)
def dropL (L : List S59) (b : Int) : Int × List S59 := if ix L b < 0 then (5, L) else if canB (atL L b) = true then (0, L.filter (keepB b)) else (12, L)
def Nd (L : List S59) : Prop := (L.map (·.f0)).Nodup
/-- The hand stands right. -/
def Hd (row : List S59) (h : Nat) : Prop := h < row.length ∨ h = 0
theorem Hd.le {row : List S59} {h : Nat} (hh : Hd row h) : h ≤ row.length := by rcases hh with h | h <;> omega
theorem updL_len (b : Int) (f : S59 → S59) (L : List S59) : (updL b f L).length = L.length := List.length_map ..
theorem ix_rot0 {row : List S59} {h : Nat} {b : Int} : ix (rot row h) b < 0 ↔ ix row b < 0 := by
  have := rot_ix (row := row) (h := h) (b := b)
  omega
theorem useC_L (most : Int) (row : List S59) (h : Nat) (b : Int) (hn : Nd row) (hh : Hd row h) (hm : 1 ≤ most) : (useC most row h b).1 = (useL most (rot row h) b).1 ∧ rot (useC most row h b).2.1 (useC most row h b).2.2 = (useL most (rot row h) b).2 ∧ Hd (useC most row h b).2.1 (useC most row h b).2.2 := by
  unfold useC useL
  rw [rot_len, rot_any]
  by_cases h1 : b < 0 ∨ 96 ≤ b
  · simp only [if_pos h1]; exact ⟨trivial, trivial, hh⟩
  · simp only [if_neg h1]
    by_cases h2 : 0 ≤ ix row b
    · simp only [if_pos h2, if_pos (rot_ix.2 h2)]
      refine ⟨trivial, ?_, ?_⟩
      · rw [← rot_upd]
        congr 1
        exact set_ix (f := touch) hn h2
      · unfold Hd at hh ⊢; rw [List.length_set]; exact hh
    · simp only [if_neg h2, if_neg (fun e => h2 (rot_ix.1 e))]
      by_cases h3 : (row.length : Int) < most
      · simp only [if_pos h3]
        exact ⟨trivial, rot_zero _, .inr rfl⟩
      · simp only [if_neg h3]
        by_cases h4 : row.any canB = false
        · simp only [if_pos h4]; exact ⟨trivial, trivial, hh⟩
        · simp only [if_neg h4]
          have hpos : h < row.length := by rcases hh with h | h <;> omega
          obtain ⟨x, t, ht⟩ := turn_ok (rot row h) (by rw [rot_any]; simpa using h4)
          rw [rot_len] at ht
          obtain ⟨row', h', e1, e2, e3⟩ := clk_turn _ row h (inF b) x t hpos ht
          rw [e1, ht]
          exact ⟨rfl, e3, .inl e2⟩
theorem pinC_L (row : List S59) (h : Nat) (b : Int) (on : Bool) (hn : Nd row) (hh : Hd row h) : (pinC row b on).1 = (pinL (rot row h) b on).1 ∧ rot (pinC row b on).2 h = (pinL (rot row h) b on).2 ∧ Hd (pinC row b on).2 h := by
  unfold pinC pinL
  by_cases h1 : ix row b < 0
  · simp only [if_pos h1, if_pos (ix_rot0.2 h1)]; exact ⟨trivial, trivial, hh⟩
  · simp only [if_neg h1, if_neg (fun e => h1 (ix_rot0.1 e))]
    refine ⟨by rw [rot_at hn (by omega)]; rfl, ?_, ?_⟩
    · rw [← rot_upd]
      congr 1
      exact set_ix (f := fun x => (pin1 x on).2) hn (by omega)
    · unfold Hd at hh ⊢; rw [List.length_set]; exact hh
theorem dirtyC_L (row : List S59) (h : Nat) (b : Int) (on : Bool) (hn : Nd row) (hh : Hd row h) : (dirtyC row b on).1 = (dirtyL (rot row h) b on).1 ∧ rot (dirtyC row b on).2 h = (dirtyL (rot row h) b on).2 ∧ Hd (dirtyC row b on).2 h := by
  unfold dirtyC dirtyL
  by_cases h1 : ix row b < 0
  · simp only [if_pos h1, if_pos (ix_rot0.2 h1)]; exact ⟨trivial, trivial, hh⟩
  · simp only [if_neg h1, if_neg (fun e => h1 (ix_rot0.1 e))]
    refine ⟨trivial, ?_, ?_⟩
    · rw [← rot_upd]
      congr 1
      exact set_ix (f := fun x => ⟨x.f0, x.f1, on, x.f3⟩) hn (by omega)
    · unfold Hd at hh ⊢; rw [List.length_set]; exact hh
theorem dropC_L (row : List S59) (h : Nat) (b : Int) (hn : Nd row) (hh : Hd row h) : (dropC row h b).1 = (dropL (rot row h) b).1 ∧ rot (dropC row h b).2.1 (dropC row h b).2.2 = (dropL (rot row h) b).2 ∧ Hd (dropC row h b).2.1 (dropC row h b).2.2 := by
  unfold dropC dropL
  by_cases h1 : ix row b < 0
  · simp only [if_pos h1, if_pos (ix_rot0.2 h1)]; exact ⟨trivial, trivial, hh⟩
  · simp only [if_neg h1, if_neg (fun e => h1 (ix_rot0.1 e))]
    rw [rot_at hn (by omega)]
    by_cases h2 : canB (atL row b) = true
    · simp only [if_pos h2, if_pos (show canB (row.getD (ix row b).toNat z59) = true from h2)]
      exact ⟨trivial, rot_zero _, .inr rfl⟩
    · simp only [if_neg h2, if_neg (show ¬ canB (row.getD (ix row b).toNat z59) = true from h2)]
      exact ⟨trivial, trivial, hh⟩
/-! ### the document's functions on the same list -/
theorem getD_cv (L : List S59) (n : Nat) : (L.map cv).getD n z71 = cv (L.getD n z59) := by
  simp only [List.getD_eq_getElem?_getD, List.getElem?_map]
  cases L[n]? <;> rfl
theorem pinR_L (L : List S59) (b : Int) (on : Bool) (hn : Nd L) : pinR (L.map cv) b on = ((pinL L b on).1, (pinL L b on).2.map cv) := by
  unfold pinR pinL
  rw [ixR_cv]
  by_cases h1 : ix L b < 0
  · simp only [if_pos h1]
  · simp only [if_neg h1, getD_cv]
    have e1 : ∀ x, pin1R (cv x) on = ((pin1 x on).1, cv (pin1 x on).2) := fun x => by
      unfold pin1R pin1
      cases on
      · by_cases h : x.f1 = 0 <;> simp [cv, h]
      · simp [cv]
    rw [e1, ← set_ix (f := fun x => (pin1 x on).2) hn (by omega), List.map_set]
    rfl
theorem dirtyR_L (L : List S59) (b : Int) (on : Bool) (hn : Nd L) : dirtyR (L.map cv) b on = ((dirtyL L b on).1, (dirtyL L b on).2.map cv) := by
  unfold dirtyR dirtyL
  rw [ixR_cv]
  by_cases h1 : ix L b < 0
  · simp only [if_pos h1]
  · simp only [if_neg h1, getD_cv]
    rw [← set_ix (f := fun x => ⟨x.f0, x.f1, on, x.f3⟩) hn (by omega), List.map_set]
    rfl
theorem dropR_L (L : List S59) (b : Int) (hn : Nd L) : dropR (L.map cv) b = ((dropL L b).1, (dropL L b).2.map cv) := by
  unfold dropR dropL
  rw [ixR_cv]
  by_cases h1 : ix L b < 0
  · simp only [if_pos h1]
  · simp only [if_neg h1, getD_cv, cv_goes]
    by_cases h2 : canB (atL L b) = true
    · simp only [if_pos h2, if_pos (show canB (L.getD (ix L b).toNat z59) = true from h2)]
      obtain ⟨n, hnn⟩ := Int.eq_ofNat_of_zero_le (show 0 ≤ ix L b by omega)
      obtain ⟨hlt, hx, -⟩ := ix_some hnn
      rw [keep_ix hn hlt hx, hnn, Int.toNat_natCast, List.map_append, List.map_take, List.map_drop]
    · simp only [if_neg h2, if_neg (show ¬ canB (L.getD (ix L b).toNat z59) = true from h2)]
theorem hasR_L (L : List S59) (b : Int) : hasR (L.map cv) b = hasC L b := by unfold hasR hasC; rw [ixR_cv]
theorem pinsR_L (L : List S59) (b : Int) : pinsR (L.map cv) b = pinsC L b := by unfold pinsR pinsC; rw [ixR_cv, getD_cv]; rfl
theorem hasC_rot (row : List S59) (h : Nat) (b : Int) : hasC row b = hasC (rot row h) b := by
  unfold hasC
  rw [decide_eq_decide]
  exact rot_ix.symm
theorem pinsC_rot (row : List S59) (h : Nat) (b : Int) (hn : Nd row) : pinsC row b = pinsC (rot row h) b := by
  unfold pinsC
  by_cases h1 : ix row b < 0
  · simp only [if_pos h1, if_pos (ix_rot0.2 h1)]
  · simp only [if_neg h1, if_neg (fun e => h1 (ix_rot0.1 e))]
    exact congrArg S59.f1 (rot_at hn (by omega)).symm
theorem listC_rot (row : List S59) (h : Nat) (hh : Hd row h) : listC row h = (rot row h).map (·.f0) := by
  apply List.ext_getElem
  · rw [listC, listI_len, List.length_map, rot_len]
  · intro i h1' h2
    have h1 := h1'
    rw [listC, listI_len] at h1
    have hrl := rot_len row h
    simp only [listC, listI, List.getElem_map, List.getElem_range]
    congr 1
    rcases hh with hh | hh
    · by_cases hi : h + i < row.length
      · rw [Nat.mod_eq_of_lt hi, getD_at _ _ hi]
        unfold rot
        rw [List.getElem_append_left (by rw [List.length_drop]; omega), List.getElem_drop]
      · rw [Nat.mod_eq_sub_mod (by omega), Nat.mod_eq_of_lt (by omega), getD_at _ _ (by omega)]
        unfold rot
        rw [List.getElem_append_right (by rw [List.length_drop]; omega), List.getElem_take]
        congr 1
        rw [List.length_drop]
        omega
    · subst hh
      rw [Nat.zero_add, Nat.mod_eq_of_lt h1, getD_at _ _ h1]
      simp only [rot_zero]
end Go.Proofs.Ytlmnagbfmkaglaa.CC
/-! Both caches' contracts over one list. -/
namespace Go.Proofs.Ytlmnagbfmkaglaa.CC
open Go.RowKit Go.Proofs.Ytlmnagbfmkaglaa.PG Go.Proofs.YtlmnagbfmkaglaaW.PrintWords
/-- A cache in memory, from the hand on. -/
def AC (B : Nat) (P : Nat → Prop) (w : World) (g : Nat) (most : Int) (L : List S59) : Prop := ∃ row hand, CS B P w g most row ((hand : Nat) : Int) ∧ Hd row hand ∧ rot row hand = L
/-- The document's cache in memory. -/
def AR (B : Nat) (P : Nat → Prop) (w : World) (g : Nat) (most : Int) (L : List S59) : Prop := RS B P w g most (L.map cv)
section
variable {B : Nat} {P P' S : Nat → Prop} {w w' : World} {g : Nat} {most : Int} {L : List S59}
theorem AC.below (h : AC B P w g most L) (hb : Below w.heap.size w w') : AC B P w' g most L := by
  obtain ⟨row, hand, h1, h2, h3⟩ := h; exact ⟨row, hand, h1.below hb, h2, h3⟩
theorem AC.mono (h : AC B P w g most L) (hP : ∀ k, P k → P' k) : AC B P' w g most L := by
  obtain ⟨row, hand, h1, h2, h3⟩ := h; exact ⟨row, hand, h1.mono hP, h2, h3⟩
theorem AC.bound (h : AC B P w g most L) : AC B (fun k => P k ∧ k < w.heap.size) w g most L := by
  obtain ⟨row, hand, h1, h2, h3⟩ := h; exact ⟨row, hand, h1.bound, h2, h3⟩
theorem AC.kept (h : AC B P w g most L) (hk : Kept w w' S) (hd : ∀ k, P k → ¬ S k) : AC B (fun k => P k ∧ k < w.heap.size) w' g most L := by
  obtain ⟨row, hand, h1, h2, h3⟩ := h; exact ⟨row, hand, h1.kept hk hd, h2, h3⟩
theorem AR.below (h : AR B P w g most L) (hb : Below w.heap.size w w') : AR B P w' g most L := RS.below h hb
theorem AR.mono (h : AR B P w g most L) (hP : ∀ k, P k → P' k) : AR B P' w g most L := RS.mono h hP
theorem AR.bound (h : AR B P w g most L) : AR B (fun k => P k ∧ k < w.heap.size) w g most L := RS.bound h
theorem AR.kept (h : AR B P w g most L) (hk : Kept w w' S) (hd : ∀ k, P k → ¬ S k) : AR B (fun k => P k ∧ k < w.heap.size) w' g most L := RS.kept h hk hd
end
/-- What is true of the list always. -/
structure Inv (k : Nat) (most : Int) (L : List S59) : Prop where
  one : 1 ≤ most
  few : most ≤ 96
  len : (L.length : Int) ≤ most
  nd : Nd L
  pins : ∀ x ∈ L, 0 ≤ x.f1 ∧ x.f1 ≤ (k : Int)
theorem Inv.more {k k' : Nat} {most : Int} {L : List S59} (h : Inv k most L) (hk : k ≤ k') : Inv k' most L := ⟨h.one, h.few, h.len, h.nd, fun x hx => by have := h.pins x hx; omega⟩
theorem Inv.lt {k : Nat} {most : Int} {L : List S59} (h : Inv k most L) : L.length < 1000 := by have := h.len; have := h.few; omega
theorem nd_upd {L : List S59} {b : Int} {f : S59 → S59} (hn : Nd L) (hf : ∀ x, (f x).f0 = x.f0) : Nd (updL b f L) := by
  unfold Nd updL at *
  rw [List.map_map]
  have e : ((fun x : S59 => x.f0) ∘ fun x => if x.f0 = b then f x else x) = fun x => x.f0 := by
    funext x
    simp only [Function.comp]
    split
    · exact hf x
    · rfl
  rw [e]; exact hn
theorem nd_app {L : List S59} {b : Int} (hn : Nd L) (hb : ∀ x ∈ L, x.f0 ≠ b) : Nd (L ++ [inF b]) := by
  unfold Nd at *
  rw [List.map_append, List.nodup_append]
  refine ⟨hn, by simp, fun x hx y hy => ?_⟩
  obtain ⟨z, hz, rfl⟩ := List.mem_map.1 hx
  simp only [List.map_cons, List.map_nil, List.mem_cons, List.not_mem_nil, or_false] at hy
  subst hy
  exact hb z hz
theorem nd_filter {L : List S59} {p : S59 → Bool} (hn : Nd L) : Nd (L.filter p) := List.Nodup.sublist (List.Sublist.map _ List.filter_sublist) hn
theorem inv_upd {k k' : Nat} {most : Int} {L : List S59} {b : Int} {f : S59 → S59} (h : Inv k most L) (hk : k ≤ k') (hf : ∀ x, (f x).f0 = x.f0) (hp : ∀ x ∈ L, x.f0 = b → 0 ≤ (f x).f1 ∧ (f x).f1 ≤ (k' : Int)) : Inv k' most (updL b f L) := by
  refine ⟨h.one, h.few, by rw [updL_len]; exact h.len, nd_upd h.nd hf, fun x hx => ?_⟩
  unfold updL at hx
  obtain ⟨y, hy, rfl⟩ := List.mem_map.1 hx
  split
  · next e => exact hp y hy e
  · have := h.pins y hy; omega
theorem turn_clr {k : Nat} {L : List S59} {x : S59} {t : List S59} (h : turnL k L = some (x :: t)) : (∀ y ∈ x :: t, ∃ z ∈ L, clr z = clr y) ∧ (x :: t).length = L.length ∧ (Nd L → Nd (x :: t)) := by
  have hp := turn_keeps k L _ h
  refine ⟨fun y hy => ?_, ?_, fun hn => ?_⟩
  · have := hp.mem_iff.1 (List.mem_map_of_mem (f := clr) hy)
    obtain ⟨z, hz, e⟩ := List.mem_map.1 this
    exact ⟨z, hz, e⟩
  · have := hp.length_eq; simpa using this
  · unfold Nd at *
    have e : ∀ l : List S59, l.map (·.f0) = (l.map clr).map (·.f0) := fun l => by rw [List.map_map]; rfl
    rw [e] at hn ⊢
    exact (hp.map _).nodup_iff.2 hn
theorem inv_use {k : Nat} {most : Int} {L : List S59} (b : Int) (h : Inv k most L) : Inv k most (useL most L b).2 := by
  unfold useL
  by_cases h1 : b < 0 ∨ 96 ≤ b
  · rw [if_pos h1]; exact h
  · rw [if_neg h1]
    by_cases h2 : 0 ≤ ix L b
    · rw [if_pos h2]; exact inv_upd h (Nat.le_refl _) (fun _ => rfl) (fun x hx _ => h.pins x hx)
    · rw [if_neg h2]
      have hb : ∀ x ∈ L, x.f0 ≠ b := ix_neg (by omega)
      by_cases h3 : (L.length : Int) < most
      · rw [if_pos h3]
        refine ⟨h.one, h.few, by simp only [List.length_append, List.length_cons, List.length_nil]; omega, nd_app h.nd hb, fun x hx => ?_⟩
        rcases List.mem_append.1 hx with hx | hx
        · exact h.pins x hx
        · simp only [List.mem_cons, List.not_mem_nil, or_false] at hx; subst hx; exact ⟨by show (0 : Int) ≤ 0; decide, by show (0 : Int) ≤ _; omega⟩
      · rw [if_neg h3]
        by_cases h4 : L.any canB = false
        · rw [if_pos h4]; exact h
        · rw [if_neg h4]
          obtain ⟨x, t, ht⟩ := turn_ok L (by simpa using h4)
          rw [ht]
          obtain ⟨q1, q2, q3⟩ := turn_clr ht
          have hn := q3 h.nd
          have hmem : ∀ y ∈ t, ∃ z ∈ L, clr z = clr y := fun y hy => q1 y (List.mem_cons_of_mem _ hy)
          refine ⟨h.one, h.few, by have := h.len; simp only [List.length_append, List.length_cons, List.length_nil] at q2 ⊢; omega, nd_app ?_ (fun y hy e => ?_), fun y hy => ?_⟩
          · unfold Nd at hn ⊢; rw [List.map_cons, List.nodup_cons] at hn; exact hn.2
          · obtain ⟨z, hz, ez⟩ := hmem y hy
            exact hb z hz ((show z.f0 = y.f0 from (show (clr z).f0 = (clr y).f0 from congrArg S59.f0 ez)).trans e)
          · rcases List.mem_append.1 hy with hy | hy
            · obtain ⟨z, hz, ez⟩ := hmem y hy
              have e1 : z.f1 = y.f1 := (show (clr z).f1 = (clr y).f1 from congrArg S59.f1 ez)
              have := h.pins z hz
              omega
            · simp only [List.mem_cons, List.not_mem_nil, or_false] at hy; subst hy; exact ⟨by show (0 : Int) ≤ 0; decide, by show (0 : Int) ≤ _; omega⟩
theorem inv_pin {k : Nat} {most : Int} {L : List S59} (b : Int) (on : Bool) (h : Inv k most L) (hk : k < 1000) : Inv (k + 1) most (pinL L b on).2 := by
  unfold pinL
  by_cases h1 : ix L b < 0
  · rw [if_pos h1]; exact h.more (by omega)
  · rw [if_neg h1]
    refine inv_upd h (by omega) (fun x => by unfold pin1; split <;> (try split) <;> rfl) (fun x hx _ => ?_)
    have := h.pins x hx
    unfold pin1
    split
    · show 0 ≤ wrap64 (x.f1 + 1) ∧ wrap64 (x.f1 + 1) ≤ _
      unfold wrap64; omega
    · split
      · show 0 ≤ x.f1 ∧ x.f1 ≤ _; omega
      · show 0 ≤ wrap64 (x.f1 - 1) ∧ wrap64 (x.f1 - 1) ≤ _
        unfold wrap64; omega
theorem inv_dirty {k : Nat} {most : Int} {L : List S59} (b : Int) (on : Bool) (h : Inv k most L) : Inv k most (dirtyL L b on).2 := by
  unfold dirtyL
  by_cases h1 : ix L b < 0
  · rw [if_pos h1]; exact h
  · rw [if_neg h1]; exact inv_upd h (Nat.le_refl _) (fun _ => rfl) (fun x hx _ => h.pins x hx)
theorem inv_drop {k : Nat} {most : Int} {L : List S59} (b : Int) (h : Inv k most L) : Inv k most (dropL L b).2 := by
  unfold dropL
  by_cases h1 : ix L b < 0
  · rw [if_pos h1]; exact h
  · rw [if_neg h1]
    split
    · exact ⟨h.one, h.few, by have h1 := h.len; have h2 := List.length_filter_le (keepB b) L; show ((L.filter (keepB b)).length : Int) ≤ most; omega, nd_filter h.nd, fun x hx => h.pins x (List.mem_filter.1 hx).1⟩
    · exact h
/-- A deed on the list. -/
def stepL (most : Int) (L : List S59) (kind b : Int) (on : Bool) : List S59 :=
  if kind = 0 then (useL most L b).2 else if kind = 1 then (pinL L b on).2 else if kind = 2 then (dirtyL L b on).2 else if kind = 3 then (dropL L b).2 else L
theorem inv_step {k : Nat} {most : Int} {L : List S59} (kind b : Int) (on : Bool) (h : Inv k most L) (hk : k < 1000) : Inv (k + 1) most (stepL most L kind b on) := by
  unfold stepL
  split
  · exact (inv_use b h).more (by omega)
  · split
    · exact inv_pin b on h hk
    · split
      · exact (inv_dirty b on h).more (by omega)
      · split
        · exact (inv_drop b h).more (by omega)
        · exact h.more (by omega)
/-! ### contracts -/
section
variable {k : Nat} (g : Nat) (P : Nat → Prop) (most : Int) (L : List S59) (b : Int) (w0 w : World)
theorem AC.fresh {B : Nat} {w2 : World} (h : AC B P w g most L) : AC B (fun k => P k ∨ w2.heap.size ≤ k) w g most L := h.mono (fun _ hk => .inl hk)
theorem AR.fresh {B : Nat} {w2 : World} (h : AR B P w g most L) : AR B (fun k => P k ∨ w2.heap.size ≤ k) w g most L := h.mono (fun _ hk => .inl hk)
theorem Use_A (hB : Below w0.heap.size w0 w) (h : AC w0.heap.size P w g most L) (hi : Inv k most L) :
    Calls Try.prog 11 #[.pointer (some ⟨g, 0, none⟩), .int .i64 b] w fun e w' => e = .returned (.tuple #[.int .i64 (useL most L b).1.1, .int .i64 (useL most L b).1.2]) ∧ AC w0.heap.size (fun k => P k ∨ w.heap.size ≤ k) w' g most (useL most L b).2 ∧ Below w0.heap.size w0 w' ∧ Kept w w' P := by
  obtain ⟨row, hand, h1, h2, rfl⟩ := h
  obtain ⟨e1, e2, e3⟩ := useC_L most row hand b (rot_nd.1 hi.nd) h2 hi.one
  refine (Use_calls g P most hand row b w0 w hB h1 (by have := hi.lt; rw [rot_len] at this; exact this) h2 hi.one).mono ?_
  rintro e w' ⟨rfl, hc, hb, hk⟩
  exact ⟨by rw [e1], ⟨_, _, hc, e3, e2⟩, hb, hk⟩
theorem Pin_A (on : Bool) (hB : Below w0.heap.size w0 w) (h : AC w0.heap.size P w g most L) (hi : Inv k most L) :
    Calls Try.prog 16 #[.pointer (some ⟨g, 0, none⟩), .int .i64 b, .bool on] w fun e w' => e = .returned (.int .i64 (pinL L b on).1) ∧ AC w0.heap.size P w' g most (pinL L b on).2 ∧ Below w0.heap.size w0 w' ∧ Kept w w' P := by
  obtain ⟨row, hand, h1, h2, rfl⟩ := h
  obtain ⟨e1, e2, e3⟩ := pinC_L row hand b on (rot_nd.1 hi.nd) h2
  refine (Pin_calls g P most hand row b on w0 w hB h1 (by have := hi.lt; rw [rot_len] at this; exact this)).mono ?_
  rintro e w' ⟨rfl, hc, hb, hk⟩
  exact ⟨by rw [e1], ⟨_, _, hc, e3, e2⟩, hb, hk⟩
theorem Dirty_A (on : Bool) (hB : Below w0.heap.size w0 w) (h : AC w0.heap.size P w g most L) (hi : Inv k most L) :
    Calls Try.prog 17 #[.pointer (some ⟨g, 0, none⟩), .int .i64 b, .bool on] w fun e w' => e = .returned (.int .i64 (dirtyL L b on).1) ∧ AC w0.heap.size P w' g most (dirtyL L b on).2 ∧ Below w0.heap.size w0 w' ∧ Kept w w' P := by
  obtain ⟨row, hand, h1, h2, rfl⟩ := h
  obtain ⟨e1, e2, e3⟩ := dirtyC_L row hand b on (rot_nd.1 hi.nd) h2
  refine (Dirty_calls g P most hand row b on w0 w hB h1 (by have := hi.lt; rw [rot_len] at this; exact this)).mono ?_
  rintro e w' ⟨rfl, hc, hb, hk⟩
  exact ⟨by rw [e1], ⟨_, _, hc, e3, e2⟩, hb, hk⟩
theorem Drop_A (hB : Below w0.heap.size w0 w) (h : AC w0.heap.size P w g most L) (hi : Inv k most L) :
    Calls Try.prog 18 #[.pointer (some ⟨g, 0, none⟩), .int .i64 b] w fun e w' => e = .returned (.int .i64 (dropL L b).1) ∧ AC w0.heap.size (fun k => P k ∨ w.heap.size ≤ k) w' g most (dropL L b).2 ∧ Below w0.heap.size w0 w' ∧ Kept w w' P := by
  obtain ⟨row, hand, h1, h2, rfl⟩ := h
  obtain ⟨e1, e2, e3⟩ := dropC_L row hand b (rot_nd.1 hi.nd) h2
  refine (Drop_calls g P most hand row b w0 w hB h1 h2.le (by have := hi.lt; rw [rot_len] at this; exact this)).mono ?_
  rintro e w' ⟨rfl, hc, hb, hk⟩
  exact ⟨by rw [e1], ⟨_, _, hc, e3, e2⟩, hb, hk⟩
theorem Has_A {B : Nat} (h : AC B P w g most L) (hi : Inv k most L) : Calls Try.prog 15 #[.pointer (some ⟨g, 0, none⟩), .int .i64 b] w fun e w' => e = .returned (.bool (hasC L b)) ∧ Below w.heap.size w w' := by
  obtain ⟨row, hand, h1, h2, rfl⟩ := h
  rw [← hasC_rot]
  exact Has_calls B P g most hand row b w h1 (by have := hi.lt; rw [rot_len] at this; exact this)
theorem Pins_A {B : Nat} (h : AC B P w g most L) (hi : Inv k most L) : Calls Try.prog 21 #[.pointer (some ⟨g, 0, none⟩), .int .i64 b] w fun e w' => e = .returned (.int .i64 (pinsC L b)) ∧ Below w.heap.size w w' := by
  obtain ⟨row, hand, h1, h2, rfl⟩ := h
  rw [← pinsC_rot row hand b (rot_nd.1 hi.nd)]
  exact Pins_calls B P g most hand row b w h1 (by have := hi.lt; rw [rot_len] at this; exact this)
theorem List_A {B : Nat} (h : AC B P w g most L) (hi : Inv k most L) : Calls Try.prog 13 #[.pointer (some ⟨g, 0, none⟩)] w fun e w' => (∃ v, e = .returned v ∧ Kd.R (Kd.int .i64) 3 w' w.heap.size (fun _ => True) v (L.map (·.f0))) ∧ Below w.heap.size w w' := by
  obtain ⟨row, hand, h1, h2, rfl⟩ := h
  rw [← listC_rot row hand h2]
  exact List_calls B P g most hand row w h1 (by have := hi.lt; rw [rot_len] at this; exact this) h2
theorem Fork_A {B : Nat} (h : AC B P w g most L) (hi : Inv k most L) : Calls Try.prog 22 #[.pointer (some ⟨g, 0, none⟩)] w fun e w' => (∃ g', e = .returned (.pointer (some ⟨g', 0, none⟩)) ∧ AC w.heap.size (fun k => w.heap.size ≤ k) w' g' most L) ∧ Below w.heap.size w w' := by
  obtain ⟨row, hand, h1, h2, rfl⟩ := h
  refine (Fork_calls B P g most hand row w h1 (by have := hi.lt; rw [rot_len] at this; exact this)).mono ?_
  rintro e w' ⟨⟨g', rfl, hc⟩, hb⟩
  exact ⟨⟨g', rfl, _, _, hc, h2, rfl⟩, hb⟩
theorem cv_len {L : List S59} (hi : Inv k most L) : (L.map cv).length < 1000 := by rw [List.length_map]; exact hi.lt
theorem Use_R (hB : Below w0.heap.size w0 w) (h : AR w0.heap.size P w g most L) (hi : Inv k most L) :
    Calls Try.prog 36 #[.pointer (some ⟨g, 0, none⟩), .int .i64 b] w fun e w' => e = .returned (.tuple #[.int .i64 (useL most L b).1.1, .int .i64 (useL most L b).1.2]) ∧ AR w0.heap.size (fun k => P k ∨ w.heap.size ≤ k) w' g most (useL most L b).2 ∧ Below w0.heap.size w0 w' ∧ Kept w w' P := by
  unfold useL
  by_cases h1 : b < 0 ∨ 96 ≤ b
  · rw [if_pos h1]
    exact (UseR_range g b h1 w).mono fun e w' ⟨he, hb⟩ => ⟨he, AR.fresh _ _ _ _ _ (AR.below h hb), below_then hB hB.size hb, kept_below _ hb⟩
  · rw [if_neg h1]
    have hlen := cv_len most hi
    by_cases h2 : 0 ≤ ix L b
    · rw [if_pos h2]
      obtain ⟨n, hn⟩ := Int.eq_ofNat_of_zero_le h2
      obtain ⟨hlt, hx, -⟩ := ix_some hn
      refine (UseR_hit g P most _ b w0 w hB h hlen (by omega) n (by rw [ixR_cv]; exact hn)).mono ?_
      rintro e w' ⟨rfl, hc, hb, hk⟩
      refine ⟨rfl, AR.fresh _ _ _ _ _ ?_, hb, hk⟩
      have e2 : (L.map cv).set n ⟨((L.map cv).getD n z71).f0, ((L.map cv).getD n z71).f1, ((L.map cv).getD n z71).f2, true⟩ = (updL b touch L).map cv := by
        rw [getD_cv, ← set_upd (f := touch) hi.nd hlt hx, List.map_set, getD_at _ _ hlt]
        rfl
      rw [e2] at hc
      exact hc
    · rw [if_neg h2]
      have hix : ixR (L.map cv) b = -1 := by rw [ixR_cv]; rcases ix_range L b with h | h <;> omega
      by_cases h3 : (L.length : Int) < most
      · rw [if_pos h3]
        refine (UseR_room g P most _ b w0 w hB h hlen (by omega) hix (by rw [List.length_map]; exact h3)).mono ?_
        rintro e w' ⟨rfl, hc, hb, hk⟩
        exact ⟨rfl, by unfold AR; rw [List.map_append]; exact hc, hb, hk⟩
      · rw [if_neg h3]
        have hany : (L.map cv).any goesB = L.any canB := by rw [List.any_map]; rfl
        by_cases h4 : L.any canB = false
        · rw [if_pos h4]
          exact (UseR_full g P most _ b w0 w hB h hlen (by omega) hix (by rw [List.length_map]; omega) (by rw [hany]; exact h4)).mono fun e w' ⟨he, hb⟩ => ⟨he, AR.fresh _ _ _ _ _ (AR.below h hb), below_then hB hB.size hb, kept_below _ hb⟩
        · rw [if_neg h4]
          obtain ⟨x, t, ht⟩ := turn_ok L (by simpa using h4)
          rw [ht]
          refine (UseR_turn g P most _ b w0 w hB h hlen (by omega) hix (by rw [List.length_map]; omega) (by rw [hany]; simpa using h4) (cv x) (t.map cv) (by rw [List.length_map, turnR_cv, ht]; rfl)).mono ?_
          rintro e w' ⟨rfl, hc, hb, hk⟩
          exact ⟨rfl, by unfold AR; rw [List.map_append]; exact hc, hb, hk⟩
theorem Pin_R (on : Bool) (hB : Below w0.heap.size w0 w) (h : AR w0.heap.size P w g most L) (hi : Inv k most L) :
    Calls Try.prog 37 #[.pointer (some ⟨g, 0, none⟩), .int .i64 b, .bool on] w fun e w' => e = .returned (.int .i64 (pinL L b on).1) ∧ AR w0.heap.size P w' g most (pinL L b on).2 ∧ Below w0.heap.size w0 w' ∧ Kept w w' P := by
  have := PinR_calls g P most _ b on w0 w hB h (cv_len most hi)
  rw [pinR_L L b on hi.nd] at this
  exact this
theorem Dirty_R (on : Bool) (hB : Below w0.heap.size w0 w) (h : AR w0.heap.size P w g most L) (hi : Inv k most L) :
    Calls Try.prog 38 #[.pointer (some ⟨g, 0, none⟩), .int .i64 b, .bool on] w fun e w' => e = .returned (.int .i64 (dirtyL L b on).1) ∧ AR w0.heap.size P w' g most (dirtyL L b on).2 ∧ Below w0.heap.size w0 w' ∧ Kept w w' P := by
  have := DirtyR_calls g P most _ b on w0 w hB h (cv_len most hi)
  rw [dirtyR_L L b on hi.nd] at this
  exact this
theorem Drop_R (hB : Below w0.heap.size w0 w) (h : AR w0.heap.size P w g most L) (hi : Inv k most L) :
    Calls Try.prog 39 #[.pointer (some ⟨g, 0, none⟩), .int .i64 b] w fun e w' => e = .returned (.int .i64 (dropL L b).1) ∧ AR w0.heap.size (fun k => P k ∨ w.heap.size ≤ k) w' g most (dropL L b).2 ∧ Below w0.heap.size w0 w' ∧ Kept w w' P := by
  have := DropR_calls g P most _ b w0 w hB h (cv_len most hi)
  rw [dropR_L L b hi.nd] at this
  exact this
theorem Has_R {B : Nat} (h : AR B P w g most L) (hi : Inv k most L) : Calls Try.prog 32 #[.pointer (some ⟨g, 0, none⟩), .int .i64 b] w fun e w' => e = .returned (.bool (hasC L b)) ∧ Below w.heap.size w w' := by
  rw [← hasR_L]
  exact HasR_calls B P g most _ b w h (cv_len most hi)
theorem Pins_R {B : Nat} (h : AR B P w g most L) (hi : Inv k most L) : Calls Try.prog 33 #[.pointer (some ⟨g, 0, none⟩), .int .i64 b] w fun e w' => e = .returned (.int .i64 (pinsC L b)) ∧ Below w.heap.size w w' := by
  rw [← pinsR_L]
  exact PinsR_calls B P g most _ b w h (cv_len most hi)
theorem List_R {B : Nat} (h : AR B P w g most L) (hi : Inv k most L) : Calls Try.prog 34 #[.pointer (some ⟨g, 0, none⟩)] w fun e w' => (∃ v, e = .returned v ∧ Kd.R (Kd.int .i64) 3 w' w.heap.size (fun _ => True) v (L.map (·.f0))) ∧ Below w.heap.size w w' := by
  have := ListR_calls B P g most _ w h (cv_len most hi)
  rw [List.map_map] at this
  exact this
theorem Fork_R {B : Nat} (h : AR B P w g most L) (hi : Inv k most L) : Calls Try.prog 23 #[.pointer (some ⟨g, 0, none⟩)] w fun e w' => (∃ g', e = .returned (.pointer (some ⟨g', 0, none⟩)) ∧ AR w.heap.size (fun k => w.heap.size ≤ k) w' g' most L) ∧ Below w.heap.size w w' :=
  ForkR_calls B P g most _ w h (cv_len most hi)
end
end Go.Proofs.Ytlmnagbfmkaglaa.CC
