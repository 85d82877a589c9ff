import Derived.Test.YtokocakdcdcdgaaTA
import Derived.Test.YtokocakdcdcdgaaTD
/-! graph.Right, merge.Right. -/
namespace Go.Proofs.Ytokocakdcdcdgaa.PG
open Go.RowKit Go.Proofs.YtokocakdcdcdgaaW.PrintWords Go.Proofs.YtokocakdcdcdgaaW.PrintLast Go.Proofs.YtokocakdcdcdgaaW.PrintMore
attribute [local go_sem] Oper.semAt_some

set_option maxHeartbeats 1000000 in
theorem idxR_calls (q : Nat) (p : Int → Bool) (A : Option Addr) (c : Nat) (l : List Int) (w : World) (hC : Kd.C (Kd.int .i64) w A l.length l) (hl : l.length ≤ 100)
    (hp : ∀ (W : World) (x : Int), x ∈ l → Below w.heap.size w W → Calls Try.prog 31 #[.int .i64 x, .pointer (some ⟨q, 0, none⟩)] W fun e w' => e = .returned (.bool (p x)) ∧ w' = W) :
    Calls Try.prog 41 #[.slice A l.length c, .func (.func 31) #[] #[.pointer (some ⟨q, 0, none⟩)]] w fun e w' => e = .returned (.int .i64 (ixF p l 0)) ∧ Below w.heap.size w w' := by
  have HC := Aside0.mk hC
  have HL := Aside0.mk hl
  have HP := Aside0.mk hp
  clear hC hl hp
  go_enter Try.func41, Try.ntmps41
  go_wp2
  go_loopg [5, 8] l.length (fun kq _ v8 w' => ∃ k : Nat, k + kq = l.length ∧ v8 = .int .i64 (k : Int) ∧ Aside0 (ixF p l 0 = ixF p (l.drop k) k) ∧ Aside0 (Below w.heap.size w w'))
  case atStart => exact ⟨0, by omega, rfl, ⟨rfl⟩, ⟨Below.refl _ _⟩⟩
  case round =>
    obtain ⟨k, hk, rfl, hI, hB⟩ := hrel
    cases gk with
    | succ k1 =>
      have hlt : k < l.length := by omega
      have f1 : decide ((k : Int) < (l.length : Int)) = true := by simp; omega
      have r1 : (0 ≤ (k : Int)) = True := eq_true (by omega)
      have r2 : ((k : Int) < (l.length : Int)) = True := eq_true (by omega)
      obtain ⟨ad, ea, x0⟩ := Kd.at_int (Kd.C_below HC.out hB.out) (k : Int) (by omega) (by omega)
      cases ea
      have hz : rd l (k : Int) = l[k] := by simp [rd, List.getD_eq_getElem?_getD, hlt]
      rw [hz, Int.toNat_natCast] at x0
      have hst := hI.out
      rw [List.drop_eq_getElem_cons hlt, ixF_cons] at hst
      have ew : Aside0 (wrap64 ((k : Int) + 1) = ((k + 1 : Nat) : Int)) := ⟨by have := HL.out; unfold wrap64; omega⟩
      have hcl := HP.out wr l[k] (List.getElem_mem hlt) hB.out
      generalize l[k] = y at *
      clear hz hI
      cases hq : p y with
      | false =>
        have HST : Aside0 (ixF p l 0 = ixF p (l.drop (k + 1)) (k + 1)) := ⟨by rw [hst, if_neg (by rw [hq]; decide)]⟩
        rw [hq] at hcl
        clear hst hq
        go_wp2_with (go_at_call 31; with_reducible refine hcl.mono ?_; rintro e w1 ⟨rfl, rfl⟩)
        go_roundg k1
        case rel => exact ⟨k + 1, by omega, by first | rfl | rw [ew.out], HST, hB⟩
        all_goals omega
      | true =>
        have HST : Aside0 (ixF p l 0 = (k : Int)) := ⟨by rw [hst, if_pos hq]⟩
        rw [hq] at hcl
        clear hst hq
        go_wp2_with (go_at_call 31; with_reducible refine hcl.mono ?_; rintro e w1 ⟨rfl, rfl⟩)
        go_ret
        exact ⟨by rw [HST.out]; rfl, hB.out⟩
    | zero =>
      obtain rfl : k = l.length := by omega
      have f1 : decide ((l.length : Int) < (l.length : Int)) = false := by simp
      have HST : Aside0 (ixF p l 0 = -1) := ⟨by rw [hI.out, List.drop_length]; rfl⟩
      go_wp2
      go_ret
      exact ⟨by rw [HST.out]; rfl, hB.out⟩
set_option maxHeartbeats 1000000 in
theorem anyR_calls (q : Nat) (p : Int → Bool) (A : Option Addr) (c : Nat) (l : List Int) (w : World) (hC : Kd.C (Kd.int .i64) w A l.length l) (hl : l.length ≤ 100)
    (hp : ∀ (W : World) (x : Int), x ∈ l → Below w.heap.size w W → Calls Try.prog 31 #[.int .i64 x, .pointer (some ⟨q, 0, none⟩)] W fun e w' => e = .returned (.bool (p x)) ∧ w' = W) :
    Calls Try.prog 27 #[.slice A l.length c, .func (.func 31) #[] #[.pointer (some ⟨q, 0, none⟩)]] w fun e w' => e = .returned (.bool (l.any p)) ∧ Below w.heap.size w w' := by
  have hx := ixF_any p l 0
  have hc := idxR_calls q p A c l w hC hl hp
  rw [← hx]
  generalize ixF p l 0 = z at *
  clear hx hC hl hp
  go_enter Try.func27, Try.ntmps27
  go_wp2_with (go_at_call 41; with_reducible refine hc.mono ?_; rintro e w1 ⟨rfl, hb⟩)
  go_ret
  exact ⟨rfl, hb⟩
set_option maxHeartbeats 1000000 in
theorem idxY_calls (q q2 : Nat) (p : Int → Bool) (A : Option Addr) (c : Nat) (l : List Int) (w : World) (hC : Kd.C (Kd.int .i64) w A l.length l) (hl : l.length ≤ 100)
    (hp : ∀ (W : World) (x : Int), x ∈ l → Below w.heap.size w W → Calls Try.prog 28 #[.int .i64 x, .pointer (some ⟨q, 0, none⟩), .pointer (some ⟨q2, 0, none⟩)] W fun e w' => e = .returned (.bool (p x)) ∧ w' = W) :
    Calls Try.prog 41 #[.slice A l.length c, .func (.func 28) #[] #[.pointer (some ⟨q, 0, none⟩), .pointer (some ⟨q2, 0, none⟩)]] w fun e w' => e = .returned (.int .i64 (ixF p l 0)) ∧ Below w.heap.size w w' := by
  have HC := Aside0.mk hC
  have HL := Aside0.mk hl
  have HP := Aside0.mk hp
  clear hC hl hp
  go_enter Try.func41, Try.ntmps41
  go_wp2
  go_loopg [5, 8] l.length (fun kq _ v8 w' => ∃ k : Nat, k + kq = l.length ∧ v8 = .int .i64 (k : Int) ∧ Aside0 (ixF p l 0 = ixF p (l.drop k) k) ∧ Aside0 (Below w.heap.size w w'))
  case atStart => exact ⟨0, by omega, rfl, ⟨rfl⟩, ⟨Below.refl _ _⟩⟩
  case round =>
    obtain ⟨k, hk, rfl, hI, hB⟩ := hrel
    cases gk with
    | succ k1 =>
      have hlt : k < l.length := by omega
      have f1 : decide ((k : Int) < (l.length : Int)) = true := by simp; omega
      have r1 : (0 ≤ (k : Int)) = True := eq_true (by omega)
      have r2 : ((k : Int) < (l.length : Int)) = True := eq_true (by omega)
      obtain ⟨ad, ea, x0⟩ := Kd.at_int (Kd.C_below HC.out hB.out) (k : Int) (by omega) (by omega)
      cases ea
      have hz : rd l (k : Int) = l[k] := by simp [rd, List.getD_eq_getElem?_getD, hlt]
      rw [hz, Int.toNat_natCast] at x0
      have hst := hI.out
      rw [List.drop_eq_getElem_cons hlt, ixF_cons] at hst
      have ew : Aside0 (wrap64 ((k : Int) + 1) = ((k + 1 : Nat) : Int)) := ⟨by have := HL.out; unfold wrap64; omega⟩
      have hcl := HP.out wr l[k] (List.getElem_mem hlt) hB.out
      generalize l[k] = y at *
      clear hz hI
      cases hq : p y with
      | false =>
        have HST : Aside0 (ixF p l 0 = ixF p (l.drop (k + 1)) (k + 1)) := ⟨by rw [hst, if_neg (by rw [hq]; decide)]⟩
        rw [hq] at hcl
        clear hst hq
        go_wp2_with (go_at_call 28; with_reducible refine hcl.mono ?_; rintro e w1 ⟨rfl, rfl⟩)
        go_roundg k1
        case rel => exact ⟨k + 1, by omega, by first | rfl | rw [ew.out], HST, hB⟩
        all_goals omega
      | true =>
        have HST : Aside0 (ixF p l 0 = (k : Int)) := ⟨by rw [hst, if_pos hq]⟩
        rw [hq] at hcl
        clear hst hq
        go_wp2_with (go_at_call 28; with_reducible refine hcl.mono ?_; rintro e w1 ⟨rfl, rfl⟩)
        go_ret
        exact ⟨by rw [HST.out]; rfl, hB.out⟩
    | zero =>
      obtain rfl : k = l.length := by omega
      have f1 : decide ((l.length : Int) < (l.length : Int)) = false := by simp
      have HST : Aside0 (ixF p l 0 = -1) := ⟨by rw [hI.out, List.drop_length]; rfl⟩
      go_wp2
      go_ret
      exact ⟨by rw [HST.out]; rfl, hB.out⟩
set_option maxHeartbeats 1000000 in
theorem anyY_calls (q q2 : Nat) (p : Int → Bool) (A : Option Addr) (c : Nat) (l : List Int) (w : World) (hC : Kd.C (Kd.int .i64) w A l.length l) (hl : l.length ≤ 100)
    (hp : ∀ (W : World) (x : Int), x ∈ l → Below w.heap.size w W → Calls Try.prog 28 #[.int .i64 x, .pointer (some ⟨q, 0, none⟩), .pointer (some ⟨q2, 0, none⟩)] W fun e w' => e = .returned (.bool (p x)) ∧ w' = W) :
    Calls Try.prog 27 #[.slice A l.length c, .func (.func 28) #[] #[.pointer (some ⟨q, 0, none⟩), .pointer (some ⟨q2, 0, none⟩)]] w fun e w' => e = .returned (.bool (l.any p)) ∧ Below w.heap.size w w' := by
  have hx := ixF_any p l 0
  have hc := idxY_calls q q2 p A c l w hC hl hp
  rw [← hx]
  generalize ixF p l 0 = z at *
  clear hx hC hl hp
  go_enter Try.func27, Try.ntmps27
  go_wp2_with (go_at_call 41; with_reducible refine hc.mono ?_; rintro e w1 ⟨rfl, hb⟩)
  go_ret
  exact ⟨rfl, hb⟩
/-- Deps that are right, and small. -/
def Dom (l : List (List Int)) : Prop := l.length ≤ 100 ∧ ∀ i, i < l.length → (l.getD i []).length ≤ 100 ∧ ∀ d ∈ l.getD i [], 0 ≤ d ∧ d < (i : Int)
instance (l : List (List Int)) : Decidable (Dom l) := inferInstanceAs (Decidable (l.length ≤ 100 ∧ ∀ i, i < l.length → (l.getD i []).length ≤ 100 ∧ ∀ d ∈ l.getD i [], 0 ≤ d ∧ d < (i : Int)))
theorem wrongR_calls (q : Nat) (i d : Int) (w : World) (hc : w.cell? ⟨q, 0, none⟩ = some (.int .i64 i)) (h0 : 0 ≤ d) (h1 : d < i) : Calls Try.prog 31 #[.int .i64 d, .pointer (some ⟨q, 0, none⟩)] w fun e w' => e = .returned (.bool false) ∧ w' = w := by
  have f1 : decide (d < 0) = false := by simp; omega
  have f2 : decide (i ≤ d) = false := by simp; omega
  clear h0 h1
  go_enter Try.func31, Try.ntmps31
  go_wp2
  go_ret
  exact ⟨rfl, rfl⟩
def graph_Right.f (l : List (List Int)) : Option Bool := if Dom l then some true else none
set_option maxHeartbeats 1000000 in
theorem graph_Right.calls (A0 : Option Addr) (c0 : Nat) (l0 : List (List Int)) (r : Bool) (w : World) (hr0 : Kd.C (Kd.slice 3 (Kd.int .i64)) w A0 l0.length l0) (_hc0 : l0.length ≤ c0) (h : graph_Right.f l0 = some r) :
    Calls Try.prog 10 #[.slice A0 l0.length c0] w fun e w' => e = .returned (.bool r) ∧ Below w.heap.size w w' := by
  unfold graph_Right.f at h
  by_cases hd : Dom l0
  · rw [if_pos hd] at h
    obtain rfl := Option.some.inj h
    have HC := Aside0.mk hr0
    have HD := Aside0.mk hd
    have g1 : decide ((256 : Int) < (l0.length : Int)) = false := by have := hd.1; simp; omega
    have g2 : decide (256 < l0.length) = false := by have := hd.1; simp; omega
    clear h hr0 hd
    go_enter Try.func10, Try.ntmps10
    go_wp2
    go_loopg [3, 4, 10] l0.length (fun kq _ _ v10 w' => ∃ k : Nat, k + kq = l0.length ∧ v10 = .int .i64 (k : Int) ∧ Aside0 (Below w.heap.size w w'))
    case atStart => exact ⟨0, by omega, rfl, ⟨Below.refl _ _⟩⟩
    case round =>
      obtain ⟨k, hk, rfl, hB⟩ := hrel
      cases gk with
      | succ k1 =>
        have hlt : k < l0.length := by omega
        have f1 : decide ((k : Int) < (l0.length : Int)) = true := by simp; omega
        have r1 : (0 ≤ (k : Int)) = True := eq_true (by omega)
        have r2 : ((k : Int) < (l0.length : Int)) = True := eq_true (by omega)
        obtain ⟨ad, A1, c1, ea, x0, hl1, hC1⟩ := at_L5 (Kd.C_below HC.out hB.out) (k : Int) (by omega) (by omega)
        cases ea
        have hz : rd_L5 l0 (k : Int) = l0.getD k [] := by simp [rd_L5]
        rw [hz] at x0 hl1 hC1
        rw [Int.toNat_natCast] at x0
        obtain ⟨q1, q2⟩ := HD.out.2 k hlt
        generalize l0.getD k [] = row at *
        have g3 : decide ((256 : Int) < (row.length : Int)) = false := by simp; omega
        have g4 : decide (256 < row.length) = false := by simp; omega
        have ew : Aside0 (wrap64 ((k : Int) + 1) = ((k + 1 : Nat) : Int)) := ⟨by have := HD.out.1; unfold wrap64; omega⟩
        have HC1 := Aside0.mk hC1
        have HQ := Aside0.mk q1
        have HQ2 := Aside0.mk q2
        clear hz hl1 hC1 q1 q2
        have hnew : Aside0 ((wr.alloc (.cells #[.int .i64 (k : Int)] 3)).cell? ⟨wr.heap.size, 0, none⟩ = some (.int .i64 (k : Int))) := ⟨cell_one_new _ _ _ 0 _ rfl⟩
        have hBn : Aside0 (Below wr.heap.size wr (wr.alloc (.cells #[.int .i64 (k : Int)] 3))) := ⟨(Below.refl _ _).alloc (Nat.le_refl _) _⟩
        have hany : row.any (fun _ => false) = false := by simp
        go_wp2_with (go_at_call 27; with_reducible refine (anyR_calls wr.heap.size (fun _ => false) A1 c1 row _ (Kd.C_below HC1.out hBn.out) HQ.out (fun W x hx hb => wrongR_calls wr.heap.size (k : Int) x W ((hb.cell (p := ⟨wr.heap.size, 0, none⟩) (by simp)).trans hnew.out) (HQ2.out x hx).1 (HQ2.out x hx).2)).mono ?_; rw [hany]; rintro e w1 ⟨rfl, hb⟩; have HB1 := Aside0.mk (below_step (below_step hB.out hBn.out) hb); clear hb)
        go_roundg k1
        case rel => exact ⟨k + 1, by omega, by first | rfl | rw [ew.out], HB1⟩
        all_goals omega
      | zero =>
        obtain rfl : k = l0.length := by omega
        have f1 : decide ((l0.length : Int) < (l0.length : Int)) = false := by simp
        go_wp2
        go_ret
        exact ⟨rfl, hB.out⟩
  · rw [if_neg hd] at h; cases h
end Go.Proofs.Ytokocakdcdcdgaa.PG
