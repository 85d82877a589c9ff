import Derived.Test.YtokocakdcdcdgaaPGx0
import Derived.Test.YtokocakdcdcdgaaPAx1
/-! Closures of one bool, ContainsFunc, graph.Right. -/
namespace Go.Proofs.Ytokocakdcdcdgaa.PG
open Go.RowKit Go.Proofs.YtokocakdcdcdgaaW.PrintWords Go.Proofs.YtokocakdcdcdgaaW.PrintLast Go.Proofs.YtokocakdcdcdgaaW.PrintMore
attribute [local go_sem] Oper.semAt_some

/-- Where the first one is, behind k. -/
def ixF {α : Type} (p : α → Bool) : List α → Nat → Int
  | [], _ => -1
  | x :: t, k => if p x = true then (k : Int) else ixF p t (k + 1)
theorem ixF_cons {α : Type} (p : α → Bool) (x : α) (t : List α) (k : Nat) : ixF p (x :: t) k = if p x = true then (k : Int) else ixF p t (k + 1) := rfl
theorem ixF_any {α : Type} (p : α → Bool) : ∀ (l : List α) (k : Nat), decide (0 ≤ ixF p l k) = l.any p
  | [], k => rfl
  | x :: t, k => by
    unfold ixF
    rw [List.any_cons]
    by_cases h : p x = true
    · rw [if_pos h, h, Bool.true_or]
      exact decide_eq_true (by omega)
    · rw [if_neg h, ixF_any p t (k + 1)]
      simp [h]
/-- A patch may be. -/
def okP (p : S41) : Bool := (PA.patch_Right.f p.f0 p.f1 p.f2).getD false
theorem okP_is (p : S41) : PA.patch_Right.f p.f0 p.f1 p.f2 = some (okP p) := by
  unfold okP PA.patch_Right.f
  repeat' split
  all_goals rfl
set_option maxHeartbeats 1000000 in
theorem notRight_calls (x : S41) (w : World) : Calls Try.prog 23 #[.agg #[.int .i64 x.f0, .int .i64 x.f1, .string x.f2]] w fun e w' => e = .returned (.bool (!okP x)) ∧ Below w.heap.size w w' := by
  have HB0 : Aside0 (Below w.heap.size w (w.alloc (.cells #[.int .i64 x.f0, .int .i64 x.f1, .string x.f2] 41))) := ⟨(Below.refl _ _).alloc (Nat.le_refl _) _⟩
  go_enter Try.func23, Try.ntmps23
  go_wp2_with (go_at_call 24; with_reducible refine (PA.patch_Right.calls x.f0 x.f1 x.f2 (okP x) _ (okP_is x)).mono ?_; rintro e w1 ⟨rfl, hb⟩; have HB1 := Aside0.mk (below_step HB0.out hb); clear hb)
  go_ret
  exact ⟨rfl, HB1.out⟩
set_option maxHeartbeats 1000000 in
theorem idxP_calls (A : Option Addr) (c : Nat) (l : List S41) (w : World) (hC : Kd.C k41 w A l.length l) (hl : l.length ≤ 64) : Calls Try.prog 39 #[.slice A l.length c, .func (.func 23) #[] #[]] w fun e w' => e = .returned (.int .i64 (ixF (fun p => !okP p) l 0)) ∧ Below w.heap.size w w' := by
  have HC := Aside0.mk hC
  have HL := Aside0.mk hl
  clear hC hl
  go_enter Try.func39, Try.ntmps39
  go_wp2
  go_loopg [5, 8] l.length (fun kq _ v8 w' => ∃ k : Nat, k + kq = l.length ∧ v8 = .int .i64 (k : Int) ∧ Aside0 (ixF (fun p => !okP p) l 0 = ixF (fun p => !okP p) (l.drop k) k) ∧ Aside0 (Below w.heap.size w w'))
  case atStart => exact ⟨0, by omega, rfl, ⟨rfl⟩, ⟨Below.refl _ _⟩⟩
  case round =>
    obtain ⟨k, hk, rfl, hI, hB⟩ := hrel
    cases gk with
    | succ k1 =>
      have hlt : k < l.length := by omega
      have f1 : decide ((k : Int) < (l.length : Int)) = true := by simp; omega
      have r1 : (0 ≤ (k : Int)) = True := eq_true (by omega)
      have r2 : ((k : Int) < (l.length : Int)) = True := eq_true (by omega)
      obtain ⟨ad, ea, x0, x1, x2⟩ := at_T41 (Kd.C_below HC.out hB.out) (k : Int) (by omega) (by omega)
      cases ea
      have hz : rd_T41 l (k : Int) = l[k] := by simp [rd_T41, List.getD_eq_getElem?_getD, hlt]
      rw [hz, Int.toNat_natCast] at x0 x1 x2
      have hst := hI.out
      rw [List.drop_eq_getElem_cons hlt, ixF_cons] at hst
      have ew : Aside0 (wrap64 ((k : Int) + 1) = ((k + 1 : Nat) : Int)) := ⟨by have := HL.out; unfold wrap64; omega⟩
      obtain ⟨y, hy⟩ : ∃ y, l[k] = y := ⟨_, rfl⟩
      rw [hy] at x0 x1 x2 hst
      clear hz hI hy
      cases hp : okP y with
      | true =>
        have HST : Aside0 (ixF (fun p => !okP p) l 0 = ixF (fun p => !okP p) (l.drop (k + 1)) (k + 1)) := ⟨by rw [hst, if_neg (by rw [hp]; decide)]⟩
        have hq : (!okP y) = false := by rw [hp]; rfl
        clear hst hp
        go_wp2_with (go_at_call 23; with_reducible refine (notRight_calls y _).mono ?_; rw [hq]; rintro e w1 ⟨rfl, hb⟩; have HB1 := Aside0.mk (below_step hB.out hb); clear hb)
        go_roundg k1
        case rel => exact ⟨k + 1, by omega, by first | rfl | rw [ew.out], HST, HB1⟩
        all_goals omega
      | false =>
        have HST : Aside0 (ixF (fun p => !okP p) l 0 = (k : Int)) := ⟨by rw [hst, if_pos (by rw [hp]; decide)]⟩
        have hq : (!okP y) = true := by rw [hp]; rfl
        clear hst hp
        go_wp2_with (go_at_call 23; with_reducible refine (notRight_calls y _).mono ?_; rw [hq]; rintro e w1 ⟨rfl, hb⟩; have HB1 := Aside0.mk (below_step hB.out hb); clear hb)
        go_ret
        exact ⟨by rw [HST.out]; rfl, HB1.out⟩
    | zero =>
      obtain rfl : k = l.length := by omega
      have f1 : decide ((l.length : Int) < (l.length : Int)) = false := by simp
      have HST : Aside0 (ixF (fun p => !okP p) l 0 = -1) := ⟨by rw [hI.out, List.drop_length]; rfl⟩
      go_wp2
      go_ret
      exact ⟨by rw [HST.out]; rfl, hB.out⟩
def api_Patch.f (l : List S41) : Option Bool := if l.length ≤ 64 then some (l.any (fun p => !okP p)) else none
set_option maxHeartbeats 1000000 in
theorem api_Patch.calls (A0 : Option Addr) (c0 : Nat) (l0 : List S41) (r : Bool) (w : World) (hr0 : Kd.C k41 w A0 l0.length l0) (_hc0 : l0.length ≤ c0) (h : api_Patch.f l0 = some r) :
    Calls Try.prog 22 #[.slice A0 l0.length c0, .func (.func 23) #[] #[]] w fun e w' => e = .returned (.bool r) ∧ Below w.heap.size w w' := by
  unfold api_Patch.f at h
  by_cases hl : l0.length ≤ 64
  · rw [if_pos hl] at h
    obtain rfl := Option.some.inj h
    have hx := ixF_any (fun p => !okP p) l0 0
    have hc := idxP_calls A0 c0 l0 w hr0 hl
    rw [← hx]
    generalize ixF (fun p => !okP p) l0 0 = z at *
    clear hx h hr0 hl
    go_enter Try.func22, Try.ntmps22
    go_wp2_with (go_at_call 39; with_reducible refine hc.mono ?_; rintro e w1 ⟨rfl, hb⟩)
    go_ret
    exact ⟨rfl, hb⟩
  · rw [if_neg hl] at h; cases h
end Go.Proofs.Ytokocakdcdcdgaa.PG
