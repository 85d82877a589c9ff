import Derived.Test.YteodjknknpdmeaaB3
/-! Plain laws of the bits of bytes, 5: the document's rows are the program's. -/
namespace Go.Proofs.Yteodjknknpdmeaa.Pure
open Go.RowKit
open Go.Proofs.Yteodjknknpdmeaa.PG Go.Proofs.YteodjknknpdmeaaW.PrintWords Go.Proofs.YteodjknknpdmeaaW.PrintLast Go.Proofs.YteodjknknpdmeaaW.PrintMore
theorem Rise.take {xs : List Int} : ∀ {a z : Int} (n : Nat), Rise a z xs → Rise a z (xs.take n) := by
  induction xs with
  | nil => intro a z n h; simp [Rise]
  | cons y ys ih =>
    intro a z n h
    cases n with
    | zero => simp [Rise]
    | succ n => exact ⟨h.1, h.2.1, ih n h.2.2⟩
theorem rd_nat (t : List Int) (i : Nat) (h : i < t.length) : rd t (i : Int) = t[i] := by simp [rd, h]
theorem refRuns_l0 (t : List Int) (hr : Rise 0 1000000 t) (hn : t.length ≤ 1000) (d : Nat) : ∀ i : Nat, t.length - i = d → i ≤ t.length →
    Ev (fun k => selvedgeref02_Runs.l0 k (runs (t.take i)) t (i : Int)) (runs t) := by
  induction d with
  | zero =>
    intro i hd hi
    obtain rfl : i = t.length := by omega
    refine Ev.step (f := fun _ => some (runs t)) (fun k => ?_) (Ev.now _)
    simp only [selvedgeref02_Runs.l0, List.take_length]
    rw [if_neg (by omega)]
  | succ d ih =>
    intro i hd hi
    have hit : i < t.length := by omega
    have hs : runs (t.take (i + 1)) = addRun (runs (t.take i)) t[i] := by rw [List.take_succ_eq_append_getElem hit, runs_snoc]
    have R := runs_rows (t.take i) 1000000 (by omega) (hr.take i)
    have hln := runs_len (t.take i)
    rw [List.length_take] at hln
    have hb := hr.mem t[i] (List.getElem_mem hit)
    have next := ih (i + 1) (by omega) (by omega)
    have w : wrap64 ((i : Int) + 1) = ((i + 1 : Nat) : Int) := by rw [wrapI (by omega)]; omega
    refine Ev.step (f := fun k => selvedgeref02_Runs.l0 k (runs (t.take (i + 1))) t ((i + 1 : Nat) : Int)) (fun k => ?_) next
    simp only [selvedgeref02_Runs.l0]
    rw [if_pos (by omega), w, rd_nat t i hit, hs]
    by_cases h0 : (i : Int) > 0
    · rw [if_pos h0, if_pos (by omega), wrapI (show _ ≤ (i : Int) - 1 ∧ _ by omega), if_pos (by omega), if_pos (by omega), show (i : Int) - 1 = ((i - 1 : Nat) : Int) by omega, rd_nat t (i - 1) (by omega)]
      have hb1 := hr.mem t[i - 1] (List.getElem_mem (by omega))
      rw [wrapI (show _ ≤ t[i - 1] + 1 ∧ _ by omega)]
      rcases List.eq_nil_or_concat (runs (t.take i)) with hn0 | ⟨ts, r, hc⟩
      · have := R.sum
        rw [hn0] at this
        simp at this
        omega
      · rw [List.concat_eq_append] at hc
        rw [hc] at R hln ⊢
        obtain ⟨u, y, hu, hy⟩ := R.last ts r rfl
        have hyv : y = t[i - 1] := by
          have h1 : (t.take i)[i - 1]? = some t[i - 1] := by rw [List.getElem?_take_of_lt (by omega)]; simp
          have hul : u.length = i - 1 := by
            have := congrArg List.length hu
            simp at this; omega
          rw [hu, List.getElem?_append_right (by omega), hul] at h1
          simpa using h1
        have hm := R.mem r (by simp)
        have hf0 : 0 ≤ r.f0 := ((hr.take i).mem _ (hm.2 r.f0 (Int.le_refl _) (by omega))).1
        have hw : wrap64 (r.f0 + r.f1) = r.f0 + r.f1 := wrapI (by omega)
        have hl : (ts ++ [r]).length = ts.length + 1 := by simp
        rw [hl] at hln
        by_cases hx : t[i] = t[i - 1] + 1
        · rw [if_pos hx, addRun_hit ts r t[i] (by rw [hw]; omega), hl, wrapI (show _ ≤ ((ts.length + 1 : Nat) : Int) - 1 ∧ _ by omega), if_pos (by omega), if_pos (by omega)]
          have e : (((ts.length + 1 : Nat) : Int) - 1).toNat = ts.length := by omega
          have e2 : rd_T30 (ts ++ [r]) (((ts.length + 1 : Nat) : Int) - 1) = r := by unfold rd_T30; rw [e]; simp
          rw [e, e2, List.set_append_right _ _ (Nat.le_refl _)]
          simp
        · rw [if_neg hx, addRun_miss ts r t[i] (by rw [hw]; omega), hl, if_pos (by omega)]
    · obtain rfl : i = 0 := by omega
      rw [if_neg h0, if_pos (by omega)]
      simp [runs, addRun]
theorem bits_len_le (l : List Int) (hn : l.length ≤ 80) : (bitsOf l).length ≤ 1000 := by have := bitsOf_len l; omega
theorem Rise.wide {xs : List Int} : ∀ {a z z' : Int}, z ≤ z' → Rise a z xs → Rise a z' xs := by
  induction xs with
  | nil => intro a z z' _ _; trivial
  | cons y ys ih => intro a z z' hz h; exact ⟨h.1, by have := h.2.1; omega, ih hz h.2.2⟩
theorem refRuns_is (l : List Int) (hl : Bytes l) (hn : l.length ≤ 80) : Ev (fun k => selvedgeref02_Runs.f k l) (runs (bitsOf l)) := by
  unfold selvedgeref02_Runs.f
  refine Ev.bind (refList_is l hl hn) ?_
  exact refRuns_l0 (bitsOf l) ((bitsOf_rise l).wide (by omega)) (bits_len_le l hn) _ 0 rfl (by omega)
theorem lists_l0 (l : List Int) (hl : Bytes l) (hn : l.length ≤ 80) (rs : List S30) (hrs : rs.length ≤ 1000) (d : Nat) : ∀ i : Nat, rs.length - i = d → i ≤ rs.length → Ev (fun k => selvedgelaw02_BitsetLists.l0 k l rs rs (i : Int)) true := by
  induction d with
  | zero =>
    intro i hd hi
    refine Ev.step (f := fun k => selvedgelaw02_BitsetLists.j1 k l rs rs (i : Int) false) (fun k => ?_) (Ev.step (f := fun k => (selvedgelaw02_live.f k).bind fun t258 => (if t258 = true then (if (rs.length : Int) = (rs.length : Int) then ((bitset_List.f l).bind fun t259 => ((selvedgeref02_List.f k l).bind fun t262 => ((selvedgeref01_Same.f k t259 t262).bind fun t265 => (if t265 = true then ((bitset_Count.f k l).bind fun t266 => ((selvedgeref02_Count.f k l).bind fun t267 => (some (t266 == t267)))) else (some false))))) else (some false)) else (some false))) (fun k => ?_) ?_)
    · simp only [selvedgelaw02_BitsetLists.l0]
      rw [if_neg (by omega)]
    · simp [selvedgelaw02_BitsetLists.j1]
    · refine Ev.bind live_ev ?_
      simp only [if_true, list_is l hl hn, Option.bind_some]
      refine Ev.bind (refList_is l hl hn) (Ev.bind (same_is _ (bits_len_le l hn)) ?_)
      simp only [if_true]
      refine Ev.bind (count_is l hl hn) (Ev.bind (refcount_is l hl hn) ?_)
      simpa using Ev.now true
  | succ d ih =>
    intro i hd hi
    refine Ev.step (f := fun k => selvedgelaw02_BitsetLists.j1 k l rs rs (i : Int) true) (fun k => ?_) (Ev.step (f := fun k => selvedgelaw02_BitsetLists.l0 k l rs rs ((i + 1 : Nat) : Int)) (fun k => ?_) (ih (i + 1) (by omega) (by omega)))
    · simp only [selvedgelaw02_BitsetLists.l0]
      rw [if_pos (by omega), show decide ((i : Int) < (rs.length : Int)) = true by simp; omega]
    · simp only [selvedgelaw02_BitsetLists.j1, if_true]
      rw [if_pos (by omega), if_pos (by omega), if_pos (by omega), wrapI (by omega)]
      simp
theorem rows_ok (l : List Int) : Rows (bitsOf l) (runs (bitsOf l)) → True := fun _ => trivial
end Go.Proofs.Yteodjknknpdmeaa.Pure
