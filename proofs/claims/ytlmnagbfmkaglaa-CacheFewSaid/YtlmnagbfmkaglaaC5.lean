import Derived.Test.YtlmnagbfmkaglaaC2
/-! Contracts of the package cache: whether one can go. -/
namespace Go.Proofs.Ytlmnagbfmkaglaa.CC
open Go.RowKit Go.Proofs.Ytlmnagbfmkaglaa.PG Go.Proofs.YtlmnagbfmkaglaaW.PrintWords Go.Proofs.YtlmnagbfmkaglaaW.PrintLast Go.Proofs.YtlmnagbfmkaglaaW.PrintMore
attribute [local go_sem] Oper.semAt_some
def canB (x : S59) : Bool := x.f1 == 0 && !x.f2
theorem can_calls (x : S59) (w : World) : Calls Try.prog 28 #[.agg #[.int .i64 x.f0, .int .i64 x.f1, .bool x.f2, .bool x.f3]] w fun e w' => e = .returned (.bool (canB x)) ∧ Below w.heap.size w w' := by
  refine cache_can.calls x.f0 x.f1 x.f2 x.f3 (canB x) w ?_
  unfold cache_can.f canB
  by_cases h : x.f1 = 0
  · simp [h]
  · simp [h]
set_option maxRecDepth 100000 in
set_option maxHeartbeats 1000000 in
theorem idxcan_calls (A : Option Addr) (c : Nat) (row : List S59) (w : World) (hC : Kd.C k59 w A row.length row) (hn : row.length < 140737488355328) :
    Calls Try.prog 40 #[.slice A row.length c, .func (.func 28) #[] #[]] w fun e w' => (∃ i : Int, e = .returned (.int .i64 i) ∧ decide (0 ≤ i) = row.any canB) ∧ Below w.heap.size w w' := by
  have HC := Aside0.mk hC
  clear hC
  go_enter Try.func40, Try.ntmps40
  go_wp2
  go_loopg [8] row.length (fun kq v8 w' => ∃ i : Nat, i + kq = row.length ∧ v8 = .int .i64 (i : Int) ∧ Aside0 ((row.take i).any canB = false) ∧ Aside0 (Below w.heap.size w w'))
  case atStart => exact ⟨0, by simp, rfl, ⟨by simp⟩, ⟨Below.refl _ _⟩⟩
  case round =>
    obtain ⟨i, hi, rfl, hA, HB⟩ := hrel
    cases gk with
    | zero =>
      obtain rfl : i = row.length := by omega
      have hA' := hA.out
      rw [List.take_length] at hA'
      clear hA
      go_wp2
      go_ret
      exact ⟨⟨_, rfl, by rw [hA']; rfl⟩, HB.out⟩
    | succ k1 =>
      have hlt : i < row.length := by omega
      have c0 : decide ((i : Int) < (row.length : Int)) = true := by simp; omega
      have p123 : 0 ≤ (i : Int) := by omega
      have q123 : (i : Int) < (row.length : Int) := by omega
      obtain ⟨ad, e, hx0, hx1, hx2, hx3⟩ := at_T59 (Kd.C_below HC.out HB.out) (i : Int) p123 q123
      cases e
      have hrd : rd_T59 row (i : Int) = row[i] := by simp [rd_T59, List.getD_eq_getElem?_getD, hlt]
      rw [hrd] at hx0 hx1 hx2 hx3
      obtain ⟨x, hx⟩ : ∃ x, row[i] = x := ⟨_, rfl⟩
      rw [hx] at hx0 hx1 hx2 hx3
      rw [Int.toNat_natCast] at hx0 hx1 hx2 hx3
      replace p123 := eq_true p123
      replace q123 := eq_true q123
      have htk : (row.take (i + 1)).any canB = canB x := by
        rw [List.take_succ_eq_append_getElem hlt, List.any_append, hA.out, hx]; simp
      cases hb : canB x with
      | true =>
        have hany : row.any canB = true := by
          rw [List.any_eq_true]; exact ⟨row[i], List.getElem_mem hlt, by rw [hx]; exact hb⟩
        go_wp2_with (go_at_call 28; with_reducible refine (can_calls x _).mono ?_; rw [hb]; rintro e w' ⟨rfl, hb2⟩)
        go_ret
        exact ⟨⟨_, rfl, by rw [hany]; simp⟩, below_step HB.out hb2⟩
      | false =>
        go_wp2_with (go_at_call 28; with_reducible refine (can_calls x _).mono ?_; rw [hb]; rintro e w' ⟨rfl, hb2⟩)
        go_roundg k1
        case rel => exact ⟨i + 1, by omega, by rw [Int.natCast_add]; rfl, ⟨by rw [htk, hb]⟩, ⟨below_step HB.out hb2⟩⟩
        all_goals omega
theorem contains_calls (A : Option Addr) (c : Nat) (row : List S59) (w : World) (hC : Kd.C k59 w A row.length row) (hn : row.length < 140737488355328) :
    Calls Try.prog 27 #[.slice A row.length c, .func (.func 28) #[] #[]] w fun e w' => e = .returned (.bool (row.any canB)) ∧ Below w.heap.size w w' := by
  have HC := Aside0.mk hC
  clear hC
  go_enter Try.func27, Try.ntmps27
  go_wp2_with (go_at_call 40; with_reducible refine (idxcan_calls A c row _ HC.out hn).mono ?_; rintro e w' ⟨⟨i, rfl, hi⟩, hb⟩)
  go_ret
  exact ⟨by rw [← hi]; first | rfl | simp, hb⟩
end Go.Proofs.Ytlmnagbfmkaglaa.CC
