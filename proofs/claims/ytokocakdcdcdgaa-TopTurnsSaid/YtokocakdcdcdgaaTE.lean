import Derived.WalkMore
import Derived.Test.YtokocakdcdcdgaaTC
/-! merge.Right. -/
namespace Go.Proofs.Ytokocakdcdcdgaa.PG
open Go.RowKit Go.Proofs.YtokocakdcdcdgaaW.PrintWords Go.Proofs.YtokocakdcdcdgaaW.PrintLast Go.Proofs.YtokocakdcdcdgaaW.PrintMore
attribute [local go_sem] Oper.semAt_some

theorem k41_heap : Kd.Heap k41 := Kd.heap_iso _ (Kd.heap_pair (Kd.heap_int _) (Kd.heap_pair (Kd.heap_int _) Kd.heap_string))
theorem k57_heap : Kd.Heap k57 := Kd.heap_iso _ (Kd.heap_pair k41_heap (Kd.heap_slice 3 (Kd.heap_int _)))
theorem deps_l0 (l : List S57) (hl : l.length ≤ 64) : ∀ (q j : Nat) (m : List (List Int)), j + q = l.length → m.length = l.length → m.take j = (l.map (·.f1)).take j → merge_deps.l0 (q + 1) m l (l.length : Int) (j : Int) = some (l.map (·.f1))
  | 0, j, m, h, hm, ht => by
    unfold merge_deps.l0
    rw [if_neg (by omega)]
    obtain rfl : j = l.length := by omega
    rw [List.take_of_length_le (by omega), List.take_of_length_le (by simp)] at ht
    rw [ht]
  | q + 1, j, m, h, hm, ht => by
    have hj : j < l.length := by omega
    have hw : wrap64 ((j : Int) + 1) = ((j + 1 : Nat) : Int) := by unfold wrap64; omega
    have hx : (rd_T57 l (j : Int)).f1 = (l.map (·.f1))[j]'(by simpa using hj) := by simp [rd_T57, List.getD_eq_getElem?_getD, hj]
    rw [merge_deps.l0, if_pos (by omega), if_pos (by omega), if_pos (by omega), if_pos (by omega), hw, Int.toNat_natCast]
    refine deps_l0 l hl q (j + 1) _ (by omega) (by rw [List.length_set]; exact hm) ?_
    rw [List.take_succ_eq_append_getElem (by rw [List.length_set]; omega), List.take_succ_eq_append_getElem (by simpa using hj), List.getElem_set_self, hx, List.take_set, List.set_eq_of_length_le (by rw [List.length_take]; omega), ht]
theorem deps_is (l : List S57) (hl : l.length ≤ 64) : merge_deps.f (l.length + 1) l = some (l.map (·.f1)) := by
  unfold merge_deps.f
  rw [if_pos (by omega), if_pos (by omega)]
  exact deps_l0 l hl l.length 0 _ (by omega) (by simp) rfl
def RightM (l : List S57) : Prop := l.length ≤ 64 ∧ (∀ x ∈ l, okP x.f0 = true) ∧ Dom (l.map (·.f1))
instance (l : List S57) : Decidable (RightM l) := inferInstanceAs (Decidable (l.length ≤ 64 ∧ (∀ x ∈ l, okP x.f0 = true) ∧ Dom (l.map (·.f1))))
def merge_Right.f (l : List S57) : Option Bool := if RightM l then some true else none
set_option maxHeartbeats 1000000 in
theorem merge_Right.calls (A0 : Option Addr) (c0 : Nat) (l0 : List S57) (r : Bool) (w : World) (hr0 : Kd.C k57 w A0 l0.length l0) (hc0 : l0.length ≤ c0) (h : merge_Right.f l0 = some r) :
    Calls Try.prog 11 #[.slice A0 l0.length c0] w fun e w' => e = .returned (.bool r) ∧ Below w.heap.size w w' := by
  unfold merge_Right.f at h
  by_cases hd : RightM l0
  · rw [if_pos hd] at h
    obtain rfl := Option.some.inj h
    have HC := Aside0.mk hr0
    have HD := Aside0.mk hd
    have HC0 := Aside0.mk hc0
    have g1 : decide ((64 : Int) < (l0.length : Int)) = false := by have := hd.1; simp; omega
    have g2 : decide (64 < l0.length) = false := by have := hd.1; simp; omega
    clear h hr0 hd hc0
    go_enter Try.func11, Try.ntmps11
    go_wp2
    go_step3
    go_wp2
    go_loopg [4, 10] l0.length (fun kq _ v10 w' => ∃ k : Nat, k + kq = l0.length ∧ v10 = .int .i64 (k : Int) ∧ Aside0 (Below w.heap.size w w'))
    case atStart => exact ⟨0, by omega, rfl, ⟨Below.refl _ _⟩⟩
    case round =>
      obtain ⟨k, hk, rfl, hB⟩ := hrel
      cases gk with
      | succ k1 =>
        have hlt : k < l0.length := by omega
        have f1 : decide ((k : Int) < (l0.length : Int)) = true := by simp; omega
        have r1 : (0 ≤ (k : Int)) = True := eq_true (by omega)
        have r2 : ((k : Int) < (l0.length : Int)) = True := eq_true (by omega)
        obtain ⟨ad, A3, c3, ea, x0, x1, x2, x3, -⟩ := at_T57 (Kd.C_below HC.out hB.out) (k : Int) (by omega) (by omega)
        cases ea
        have hz : rd_T57 l0 (k : Int) = l0[k] := by simp [rd_T57, List.getD_eq_getElem?_getD, hlt]
        rw [hz] at x0 x1 x2 x3
        rw [Int.toNat_natCast] at x0 x1 x2 x3
        have hok := HD.out.2.1 l0[k] (List.getElem_mem hlt)
        generalize l0[k] = y at *
        have ew : Aside0 (wrap64 ((k : Int) + 1) = ((k + 1 : Nat) : Int)) := ⟨by have := HD.out.1; unfold wrap64; omega⟩
        have HOK : Aside0 (PA.patch_Right.f y.f0.f0 y.f0.f1 y.f0.f2 = some true) := ⟨by rw [okP_is, hok]⟩
        have hBn : Aside0 (Below wr.heap.size wr (wr.alloc (.cells #[.int .i64 y.f0.f0, .int .i64 y.f0.f1, .string y.f0.f2, .slice A3 y.f1.length c3] 57))) := ⟨(Below.refl _ _).alloc (Nat.le_refl _) _⟩
        clear hz hok
        go_wp2_with (go_at_call 24; with_reducible refine (PA.patch_Right.calls y.f0.f0 y.f0.f1 y.f0.f2 true _ HOK.out).mono ?_; rintro e w1 ⟨rfl, hb⟩; have HB1 := Aside0.mk (below_step (below_step hB.out hBn.out) hb); clear hb)
        go_roundg k1
        case rel => exact ⟨k + 1, by omega, by first | rfl | rw [ew.out], HB1⟩
        all_goals omega
      | zero =>
        obtain rfl : k = l0.length := by omega
        have f1 : decide ((l0.length : Int) < (l0.length : Int)) = false := by simp
        have hdp := deps_is l0 HD.out.1
        have hrt : graph_Right.f (l0.map (·.f1)) = some true := by unfold graph_Right.f; rw [if_pos HD.out.2.2]
        obtain ⟨dl, hdl⟩ : ∃ dl, l0.map (·.f1) = dl := ⟨_, rfl⟩
        rw [hdl] at hdp hrt
        clear hdl
        have HV : Aside0 (Kd.V k57 57 wr wr.heap.size (fun k_ => k_ < wr.heap.size) (.slice A0 l0.length c0) l0) := ⟨Kd.V_mk HC0.out (Kd.C_F k57_heap (Kd.C_below HC.out hB.out))⟩
        go_wp2_with (first | (go_at_call 32; with_reducible refine (merge_deps.calls (l0.length + 1) (fun k_ => k_ < wr.heap.size) A0 c0 l0 _ _ HV.out hdp).mono ?_; rintro e w1 ⟨v1, rfl, hN, hb⟩; obtain ⟨A1, c1, e1⟩ := Kd.N_slice hN; subst e1; have HN := Aside0.mk (Kd.N_reads' hN); have HB1 := Aside0.mk (below_step hB.out hb); clear hN hb) | (go_at_call 10; with_reducible refine (graph_Right.calls A1 c1 _ true _ HN.out.2.2 HN.out.2.1 hrt).mono ?_; rintro e w2 ⟨rfl, hb⟩; have HB2 := Aside0.mk (below_step HB1.out hb); clear hb))
        rw [Exit.noGoto_ret]
        go_ret
        exact ⟨rfl, HB2.out⟩
  · rw [if_neg hd] at h; cases h
end Go.Proofs.Ytokocakdcdcdgaa.PG
