import Derived.Test.YtlmnagbfmkaglaaE0
/-! The walk of the law CacheOrder. -/
namespace Go.Proofs.Ytlmnagbfmkaglaa.PJ
open Go.RowKit Go.Proofs.Ytlmnagbfmkaglaa.PG Go.Proofs.Ytlmnagbfmkaglaa.CC Go.Proofs.YtlmnagbfmkaglaaW.PrintWords Go.Proofs.YtlmnagbfmkaglaaW.PrintLast Go.Proofs.YtlmnagbfmkaglaaW.PrintMore
attribute [local go_sem] Oper.semAt_some
def selvedgelaw08_CacheOrder.f (a0 a1 a2 : Int) : Option Bool := if 0 ≤ a0 ∧ a0 < 256 ∧ 0 ≤ a1 ∧ a1 < 256 ∧ 0 ≤ a2 ∧ a2 < 256 then some true else none
set_option maxRecDepth 100000 in
set_option maxHeartbeats 4000000 in
theorem order_in (a0 a1 a2 : Int) (m M : Nat) (hm : 1 ≤ m ∧ m ≤ 8) (hM : M < 60) (ha : 0 ≤ a1 ∧ a1 < 256) (e1 : wrap64 ((wrap64 a0).tmod 8 + 1) = (m : Int)) (e2 : (wrap64 a2).tmod 60 = (M : Int)) (w : World) :
    Calls Try.prog 3 #[.int .u8 a0, .int .u8 a1, .int .u8 a2] w fun e w' => e = .returned (.bool true) ∧ Below w.heap.size w w' := by
  have E1 := Aside0.mk e1
  have E2 := Aside0.mk e2
  have HM := Aside0.mk hm
  have HMM := Aside0.mk hM
  have HA := Aside0.mk ha
  clear e1 e2 hm hM ha
  have hnew := fun W => New_ok (m : Int) (by have := HM.out; omega) (by have := HM.out; omega) W
  go_enter Try.func3, Try.ntmps3
  go_upto_region 2 with (fail)
  simp only [E1.out]
  go_wp2_with (go_at_call 10; with_reducible refine (hnew _).mono ?_; rintro e w1 ⟨⟨g, rfl, hc⟩, hb⟩; have C0 := Aside0.mk hc; have B0 := Aside0.mk hb; clear hc hb)
  go_loopg [9] M (fun kq v9 w' => ∃ i : Nat, i + kq = M ∧ v9 = .int .i64 (i : Int) ∧ Aside0 (CS w.heap.size (fun k => w.heap.size ≤ k) w' g (m : Int) (st a1 m i).1 ((st a1 m i).2 : Int)) ∧ Aside0 (Below w.heap.size w w'))
  case atStart => exact ⟨0, by omega, rfl, C0, B0⟩
  case round =>
    obtain ⟨i, hi, rfl, hc, hb⟩ := hrel
    cases gk with
    | zero =>
      obtain rfl : i = M := by omega
      have d0 : decide ((i : Int) < (wrap64 a2).tmod 60) = false := by rw [E2.out]; simp
      have hlv := fun W => live_calls W
      go_wp2_with (first | (go_at_call 12; with_reducible refine (hlv _).mono ?_; rintro e w2 ⟨rfl, hb2⟩; have C2 := Aside0.mk (hc.out.below hb2); have B2 := Aside0.mk (below_step hb.out hb2); clear hb2) | (go_at_call 13; with_reducible refine (List_calls w.heap.size _ g _ _ _ _ C2.out (Nat.lt_of_le_of_lt (st_len a1 m i) (by have := HM.out; omega)) (st_hand a1 m i HM.out.1)).mono ?_; rintro e w3 ⟨⟨v3, rfl, ho⟩, hb3⟩; obtain ⟨A3, c3, ev3⟩ := Kd.R_slice ho; subst ev3; have B3 := Aside0.mk (below_step B2.out hb3); clear hb3))
      go_ret
      have hl : (listC (st a1 m i).1 (st a1 m i).2).length ≤ m := by unfold listC; rw [listI_len]; exact st_len a1 m i
      exact ⟨by rw [← show decide ((listC (st a1 m i).1 (st a1 m i).2).length ≤ m) = true from decide_eq_true hl]; rfl, B3.out⟩
    | succ k1 =>
      have hl60 : i < 60 := by have := HMM.out; omega
      have huse : ∀ W, Below w.heap.size w W → CS w.heap.size (fun k => w.heap.size ≤ k) W g (m : Int) (st a1 m i).1 ((st a1 m i).2 : Int) → Calls Try.prog 11 #[.pointer (some ⟨g, 0, none⟩), .int .i64 (blk a1 i)] W fun e w' => e = .returned (.tuple #[.int .i64 (if m ≤ i then blk a1 (i - m) else -1), .int .i64 0]) ∧ CS w.heap.size (fun k => w.heap.size ≤ k) w' g (m : Int) (st a1 m (i + 1)).1 ((st a1 m (i + 1)).2 : Int) ∧ Below w.heap.size w w' := fun W hb h =>
        (use_is g _ (m : Int) _ _ _ w W (step_is a1 m i HM.out) (Nat.lt_of_le_of_lt (st_len a1 m i) (by have := HM.out; omega)) (st_hand a1 m i HM.out.1) (by have := HM.out; omega) hb h).mono fun e w' ⟨h1, h2, h3, _⟩ => ⟨h1, h2.mono (fun k hk => hk.elim id (fun h => Nat.le_trans hb.size h)), h3⟩
      have NB : Aside0 ((wrap64 (wrap64 a1 + (i : Int))).tmod 96 = blk a1 i) := ⟨by
        have := HA.out
        rw [show wrap64 a1 = a1 by unfold wrap64; omega, show wrap64 (a1 + (i : Int)) = a1 + (i : Int) by unfold wrap64; omega, Int.tmod_eq_emod_of_nonneg (by omega)]
        rfl⟩
      have HU := Aside0.mk huse
      clear huse
      have d0 : decide ((i : Int) < (wrap64 a2).tmod 60) = true := by rw [E2.out]; simp; omega
      by_cases him : m ≤ i
      · have d1 : decide ((m : Int) ≤ (i : Int)) = true := by simp; omega
        go_upto_region 9 with (fail)
        have NW : (wrap64 (wrap64 (wrap64 a1 + (i : Int)) - (m : Int))).tmod 96 = blk a1 (i - m) := by
          have := HA.out
          have := HM.out
          rw [show wrap64 a1 = a1 by unfold wrap64; omega, show wrap64 (a1 + (i : Int)) = a1 + (i : Int) by unfold wrap64; omega, show wrap64 (a1 + (i : Int) - (m : Int)) = a1 + (i : Int) - (m : Int) by unfold wrap64; omega, Int.tmod_eq_emod_of_nonneg (by omega)]
          unfold blk
          congr 1
          omega
        simp only [NW]
        clear NW
        obtain ⟨W0, hW0⟩ : ∃ W0, blk a1 (i - m) = W0 := ⟨_, rfl⟩
        have hu2 := HU.out
        rw [if_pos him, hW0] at hu2
        have HU2 := Aside0.mk hu2
        simp only [hW0]
        clear hu2 hW0
        go_wp2_with (go_at_call 11; rw [NB.out]; with_reducible refine (HU2.out _ hb.out hc.out).mono ?_; rintro e w2 ⟨rfl, hc2, hb2⟩; have C2 := Aside0.mk hc2; have B2 := Aside0.mk hb2; clear hc2 hb2)
        go_roundg k1
        case rel => exact ⟨i + 1, by omega, by first | rfl | (rw [show wrap64 ((i : Int) + 1) = ((i + 1 : Nat) : Int) by unfold wrap64; omega]), C2, B2⟩
        all_goals omega
      · have d1 : decide ((m : Int) ≤ (i : Int)) = false := by simp; omega
        have hu2 := HU.out
        rw [if_neg him] at hu2
        have HU2 := Aside0.mk hu2
        clear hu2
        go_wp2_with (go_at_call 11; rw [NB.out]; with_reducible refine (HU2.out _ hb.out hc.out).mono ?_; rintro e w2 ⟨rfl, hc2, hb2⟩; have C2 := Aside0.mk hc2; have B2 := Aside0.mk hb2; clear hc2 hb2)
        go_roundg k1
        case rel => exact ⟨i + 1, by omega, by first | rfl | (rw [show wrap64 ((i : Int) + 1) = ((i + 1 : Nat) : Int) by unfold wrap64; omega]), C2, B2⟩
        all_goals omega
theorem selvedgelaw08_CacheOrder.calls (a0 : Int) (a1 : Int) (a2 : Int) (r : Bool) (w : World) (h : selvedgelaw08_CacheOrder.f a0 a1 a2 = some r) :
    Calls Try.prog 3 #[.int .u8 a0, .int .u8 a1, .int .u8 a2] w fun e w' => e = .returned (.bool r) ∧ Below w.heap.size w w' := by
  unfold selvedgelaw08_CacheOrder.f at h
  split at h
  · next hb =>
    obtain rfl := Option.some.inj h
    refine order_in a0 a1 a2 ((a0 % 8).toNat + 1) (a2 % 60).toNat (by omega) (by omega) (by omega) ?_ ?_ w
    · rw [show wrap64 a0 = a0 by unfold wrap64; omega, Int.tmod_eq_emod_of_nonneg (by omega)]
      unfold wrap64
      omega
    · rw [show wrap64 a2 = a2 by unfold wrap64; omega, Int.tmod_eq_emod_of_nonneg (by omega)]
      omega
  · exact absurd h (by simp)
end Go.Proofs.Ytlmnagbfmkaglaa.PJ
