import Derived.Test.YteodjknknpdmeaaB4
import Derived.Test.YteodjknknpdmeaaPGx4
/-! Plain laws of the bits of bytes, 6: the law BitsetRows. -/
namespace Go.Proofs.Yteodjknknpdmeaa.Pure
open Go.RowKit
open Go.Proofs.Yteodjknknpdmeaa.PG Go.Proofs.YteodjknknpdmeaaW.PrintWords Go.Proofs.YteodjknknpdmeaaW.PrintLast Go.Proofs.YteodjknknpdmeaaW.PrintMore
theorem rdT_nat (rs : List S30) (i : Nat) (h : i < rs.length) : rd_T30 rs (i : Int) = rs[i] := by simp [rd_T30, h]
theorem sum_le (rs : List S30) (h : ∀ r ∈ rs, 1 ≤ r.f1) (i : Nat) : 0 ≤ ((rs.take i).map (·.f1)).sum ∧ ((rs.take i).map (·.f1)).sum ≤ (rs.map (·.f1)).sum := by
  induction rs generalizing i with
  | nil => simp
  | cons r rs ih =>
    cases i with
    | zero =>
      have := (ih (fun r hr => h r (by simp [hr])) rs.length).1
      rw [List.take_length] at this
      have h1 := h r (by simp)
      simp only [List.take_zero, List.map_nil, List.sum_nil, List.map_cons, List.sum_cons]
      omega
    | succ i =>
      have := ih (fun r hr => h r (by simp [hr])) i
      have h1 := h r (by simp)
      simp only [List.take_succ_cons, List.map_cons, List.sum_cons]
      omega
section
variable (l : List Int) (hl : Bytes l) (hn : l.length ≤ 80)
include hl hn
theorem rows_l1 (rs : List S30) (hrs : Rows (bitsOf l) rs) (i : Nat) (hi : i < rs.length) (n : Int) (r : Bool) (hn2 : 0 ≤ n ∧ n ≤ 1000) (hsm : rs[i].f1 ≤ 1000)
    (hend : Ev (fun k => selvedgelaw02_BitsetRows.l0 k l rs (n + rs[i].f1) ((i + 1 : Nat) : Int)) r) (hi2 : rs.length ≤ 1000) (d : Nat) : ∀ q : Int, 0 ≤ q → q ≤ rs[i].f1 → (rs[i].f1 - q).toNat = d →
    Ev (fun k => selvedgelaw02_BitsetRows.l1 k l rs n (i : Int) q) r := by
  have hm := hrs.mem rs[i] (List.getElem_mem hi)
  have hend' : Ev (fun k => selvedgelaw02_BitsetRows.j3 k l rs n (i : Int) rs[i].f1 false) r := by
    refine Ev.step (fun k => ?_) hend
    simp only [selvedgelaw02_BitsetRows.j3, rdT_nat rs i hi]
    rw [if_neg (by simp), if_pos (by omega), if_pos (by omega), wrapI (by omega), wrapI (by omega)]
    rfl
  induction d with
  | zero =>
    intro q h0 h1 h2
    obtain rfl : q = rs[i].f1 := by omega
    refine Ev.step (fun k => ?_) hend'
    simp only [selvedgelaw02_BitsetRows.l1, rdT_nat rs i hi]
    rw [if_pos (by omega), if_pos (by omega), if_neg (by omega)]
  | succ d ih =>
    intro q h0 h1 h2
    by_cases hq : q = 1000
    · have hq2 : q = rs[i].f1 := by omega
      rw [hq2]
      refine Ev.step (fun k => ?_) hend'
      simp only [selvedgelaw02_BitsetRows.l1, rdT_nat rs i hi]
      rw [if_pos (by omega), if_pos (by omega), if_neg (by omega)]
    · have hmem := hm.2 (rs[i].f0 + q) (by omega) (by omega)
      have hbit := (mem_bitsOf l _).1 hmem
      have hrise := (bitsOf_rise l).mem _ hmem
      refine Ev.step (f := fun k => selvedgelaw02_BitsetRows.j3 k l rs n (i : Int) q true) (fun k => ?_) (Ev.step (f := fun k => selvedgelaw02_BitsetRows.l1 k l rs n (i : Int) (q + 1)) (fun k => ?_) (ih (q + 1) (by omega) (by omega) (by omega)))
      · simp only [selvedgelaw02_BitsetRows.l1, rdT_nat rs i hi]
        rw [if_pos (by omega), if_pos (by omega), if_pos (by omega), show decide (q < 1000) = true by simp; omega]
      · simp only [selvedgelaw02_BitsetRows.j3, rdT_nat rs i hi, if_true]
        rw [if_pos (by omega), if_pos (by omega), wrapI (show _ ≤ rs[i].f0 + q ∧ _ by omega), get_is l _ hl (by omega), hbit]
        simp only [Option.bind_some, if_true]
        rw [wrapI (by omega)]
theorem rows_l0 (rs : List S30) (hrs : Rows (bitsOf l) rs) (hlen : rs.length ≤ 1000) (d : Nat) : ∀ i : Nat, rs.length - i = d → i ≤ rs.length →
    Ev (fun k => selvedgelaw02_BitsetRows.l0 k l rs (((rs.take i).map (·.f1)).sum) (i : Int)) true := by
  have hbl := bits_len_le l hn
  have hsum := hrs.sum
  induction d with
  | zero =>
    intro i hd hi
    obtain rfl : i = rs.length := by omega
    refine Ev.step (f := fun k => (selvedgelaw02_live.f k).bind fun t186 => (if t186 = true then ((bitset_Count.f k l).bind fun t187 => (some ((((rs.take rs.length).map (·.f1)).sum) == t187))) else (some false))) (fun k => ?_) ?_
    · simp only [selvedgelaw02_BitsetRows.l0]
      rw [if_neg (by omega)]
    · refine Ev.bind live_ev ?_
      simp only [if_true]
      refine Ev.bind (count_is l hl hn) ?_
      rw [List.take_length, hsum]
      simpa using Ev.now true
  | succ d ih =>
    intro i hd hi
    have hit : i < rs.length := by omega
    have hm := hrs.mem rs[i] (List.getElem_mem hit)
    have next := ih (i + 1) (by omega) (by omega)
    have hs1 := sum_le rs (fun r hr => (hrs.mem r hr).1) i
    have hs2 := sum_le rs (fun r hr => (hrs.mem r hr).1) (i + 1)
    rw [List.take_succ_eq_append_getElem hit, List.map_append, List.sum_append] at next hs2
    simp only [List.map_cons, List.map_nil, List.sum_cons, List.sum_nil, Int.add_zero] at next hs2
    have inner := rows_l1 l hl hn rs hrs i hit _ true ⟨hs1.1, by omega⟩ (by omega) next hlen _ 0 (by omega) (by omega) rfl
    refine Ev.step (f := fun k => selvedgelaw02_BitsetRows.j1 k l rs (((rs.take i).map (·.f1)).sum) (i : Int) false) (fun k => ?_) (Ev.step (fun k => ?_) inner)
    · simp only [selvedgelaw02_BitsetRows.l0]
      rw [if_pos (by omega), if_pos (by omega), rdT_nat rs i hit, if_neg (by omega)]
      by_cases h0 : (i : Int) > 0
      · have hprev := hrs.mem rs[i - 1] (List.getElem_mem (by omega))
        have hpm := hrs.mem rs[i - 1] (List.getElem_mem (by omega))
        have hf := ((bitsOf_rise l).mem _ (hpm.2 rs[i - 1].f0 (Int.le_refl _) (by omega)))
        have hl1 := ((bitsOf_rise l).mem _ (hpm.2 (rs[i - 1].f0 + rs[i - 1].f1 - 1) (by omega) (by omega)))
        have hg := hrs.gap (i - 1) rs[i - 1] rs[i] (List.getElem?_eq_getElem _) (by rw [show i - 1 + 1 = i by omega]; exact List.getElem?_eq_getElem _)
        rw [if_pos h0, wrapI (show _ ≤ (i : Int) - 1 ∧ _ by omega), if_pos (by omega), if_pos (by omega), show (i : Int) - 1 = ((i - 1 : Nat) : Int) by omega, rdT_nat rs (i - 1) (by omega), wrapI (by omega)]
        rw [show decide (rs[i].f0 ≤ rs[i - 1].f0 + rs[i - 1].f1) = false by simp; omega]
      · rw [if_neg h0]
    · simp [selvedgelaw02_BitsetRows.j1]
end
end Go.Proofs.Yteodjknknpdmeaa.Pure
