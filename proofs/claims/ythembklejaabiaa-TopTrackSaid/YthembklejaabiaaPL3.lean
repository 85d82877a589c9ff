import Derived.Test.YthembklejaabiaaPL1
import Derived.Test.YthembklejaabiaaPL2
/-! Contracts of the package place: which blocks and tracks there may be. -/
namespace Go.Proofs.Ythembklejaabiaa.PL
open Go.RowKit Go.Proofs.Ythembklejaabiaa.Fl Go.Proofs.YthembklejaabiaaW.PrintWords Go.Proofs.YthembklejaabiaaW.PrintLast Go.Proofs.YthembklejaabiaaW.PrintMore
attribute [local go_sem] Oper.semAt_some
/-- No block. -/
def bad (x : Int) : Bool := decide (x < 0) || decide (x ≥ 1024)
theorem bad_calls (x : Int) (w : World) : Calls Try.prog 39 #[.int .i64 x] w fun e w' => e = .returned (.bool (bad x)) ∧ w' = w := by
  unfold bad
  by_cases h : x < 0
  · have h0 : decide (x < 0) = true := by simp [h]
    go_enter Try.func39, Try.ntmps39
    go_wp2
    go_ret
    exact ⟨by simp [h], rfl⟩
  · have h0 : decide (x < 0) = false := by simp; omega
    go_enter Try.func39, Try.ntmps39
    go_wp2
    go_ret
    exact ⟨by simp [h], rfl⟩
set_option maxRecDepth 100000 in
set_option maxHeartbeats 1000000 in
theorem idx_calls (A : Option Addr) (c : Nat) (l : List Int) (w : World) (hC : Kd.C (Kd.int .i64) w A l.length l) (hn : l.length < 140737488355328) : Calls Try.prog 49 #[.slice A l.length c, .func (.func 39) #[] #[]] w fun e w' => (∃ i : Int, e = .returned (.int .i64 i) ∧ decide (0 ≤ i) = l.any bad) ∧ w' = w := by
  have HC := Aside0.mk hC
  clear hC
  go_enter Try.func49, Try.ntmps49
  go_wp2
  go_loopg [8] l.length (fun kq v8 w' => ∃ i : Nat, i + kq = l.length ∧ v8 = .int .i64 (i : Int) ∧ Aside0 ((l.take i).any bad = false) ∧ w' = w)
  case atStart => exact ⟨0, by simp, rfl, ⟨by simp⟩, rfl⟩
  case round =>
    obtain ⟨i, hi, rfl, hA, rfl⟩ := hrel
    cases gk with
    | zero =>
      obtain rfl : i = l.length := by omega
      have hA' := hA.out
      rw [List.take_length] at hA'
      clear hA
      go_wp2
      go_ret
      exact ⟨⟨_, rfl, by rw [hA']; rfl⟩, rfl⟩
    | succ k1 =>
      have hlt : i < l.length := by omega
      have c0 : decide ((i : Int) < (l.length : Int)) = true := by simp; omega
      have p123 : 0 ≤ (i : Int) := by omega
      have q123 : (i : Int) < (l.length : Int) := by omega
      obtain ⟨ad, e, hx⟩ := Kd.at_int HC.out (i : Int) p123 q123
      cases e
      have hrd : rd l (i : Int) = l[i] := by simp [rd, List.getD_eq_getElem?_getD, hlt]
      rw [hrd, Int.toNat_natCast] at hx
      have hw : wrap64 ((i : Int) + 1) = ((i + 1 : Nat) : Int) := by unfold wrap64; omega
      have htk : (l.take (i + 1)).any bad = bad l[i] := by
        rw [List.take_succ_eq_append_getElem hlt, List.any_append, hA.out]; simp
      replace p123 := eq_true p123
      replace q123 := eq_true q123
      cases hb : bad l[i] with
      | true =>
        have hany : l.any bad = true := by
          rw [List.any_eq_true]; exact ⟨l[i], List.getElem_mem hlt, hb⟩
        go_wp2_with (go_at_call 39; refine (bad_calls l[i] _).mono ?_; rintro e w' ⟨rfl, rfl⟩)
        go_ret
        exact ⟨⟨_, rfl, by rw [hany]; simp⟩, rfl⟩
      | false =>
        rw [hb] at htk
        go_wp2_with (go_at_call 39; refine (bad_calls l[i] _).mono ?_; rintro e w' ⟨rfl, rfl⟩)
        go_roundg k1
        case rel => exact ⟨i + 1, by omega, by first | rfl | rw [hw], ⟨htk⟩, rfl⟩
        all_goals omega
end Go.Proofs.Ythembklejaabiaa.PL
