import Derived.Test.YtlmnagbfmkaglaaHA
/-! The walk of the law CachePlays. -/
namespace Go.Proofs.Ytlmnagbfmkaglaa.PK
open Go.RowKit Go.Proofs.Ytlmnagbfmkaglaa.PG Go.Proofs.Ytlmnagbfmkaglaa.PI Go.Proofs.Ytlmnagbfmkaglaa.CC Go.Proofs.YtlmnagbfmkaglaaW.PrintWords Go.Proofs.YtlmnagbfmkaglaaW.PrintLast Go.Proofs.YtlmnagbfmkaglaaW.PrintMore
attribute [local go_sem] Oper.semAt_some
def selvedgelaw08_CachePlays.f (a0 : Int) (_l1 : List S50) : Option Bool := if 0 ≤ a0 ∧ a0 < 256 then some true else none
set_option maxHeartbeats 2000000 in
set_option maxRecDepth 100000 in
theorem selvedgelaw08_CachePlays.calls (a0 : Int) (A1 : Option Addr) (c1 : Nat) (l1 : List S50) (r : Bool) (w : World) (hr1 : Kd.C k50 w A1 l1.length l1) (hc1 : l1.length ≤ c1) (h : selvedgelaw08_CachePlays.f a0 l1 = some r) :
    Calls Try.prog 5 #[.int .u8 a0, .slice A1 l1.length c1] w fun e w' => e = .returned (.bool r) ∧ Below w.heap.size w w' := by
  unfold selvedgelaw08_CachePlays.f at h
  by_cases ha : 0 ≤ a0 ∧ a0 < 256
  · rw [if_pos ha] at h
    obtain rfl := Option.some.inj h
    have hp := play_calls a0 ha A1 c1 l1 w hr1
    have hi := inv_play (most := a0 % 8 + 1) l1 (by omega) (by omega)
    have hlv := fun W => live_calls W
    clear h hr1 hc1
    go_enter Try.func5, Try.ntmps5
    go_wp2_with (first | (go_at_call 14; with_reducible refine hp.mono ?_; rintro e w1 ⟨⟨gc, gr, rfl, Pc, Pr, hT⟩, hb⟩; have HT := Aside0.mk hT; have HB := Aside0.mk hb; clear hT hb) | (go_at_call 12; with_reducible refine (hlv _).mono ?_; rintro e w2 ⟨rfl, hb2⟩; have HT2 := Aside0.mk (Two.below HT.out hb2); have HB2 := Aside0.mk (below_step HB.out hb2); clear hb2) | (go_at_call 19; with_reducible refine (same_calls _ _ _ _ _ _ _ _ HT2.out hi).mono ?_; rintro e w3 ⟨rfl, hb3⟩))
    go_ret
    exact ⟨rfl, below_step HB2.out hb3⟩
  · rw [if_neg ha] at h; exact absurd h (by simp)
end Go.Proofs.Ytlmnagbfmkaglaa.PK
