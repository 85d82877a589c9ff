import Derived.Test.YtfbjeiloefocgaaYD
/-! The walk of the law ArmPlays. -/
namespace Go.Proofs.Ytfbjeiloefocgaa.PP
open Go.RowKit Go.Proofs.Ytfbjeiloefocgaa.Fl Go.Proofs.Ytfbjeiloefocgaa.PL Go.Proofs.Ytfbjeiloefocgaa.CC Go.Proofs.Ytfbjeiloefocgaa.PG Go.Proofs.YtfbjeiloefocgaaW.PrintWords Go.Proofs.YtfbjeiloefocgaaW.PrintLast Go.Proofs.YtfbjeiloefocgaaW.PrintMore
attribute [local go_sem] Oper.semAt_some

def selvedgelaw21_ArmPlays.f (a0 a1 : Int) (_l2 : List S58) : Option Bool := if 0 ≤ a0 ∧ a0 < 256 ∧ 0 ≤ a1 ∧ a1 < 256 then some true else none
set_option maxHeartbeats 2000000 in
set_option maxRecDepth 100000 in
theorem selvedgelaw21_ArmPlays.calls (a0 : Int) (a1 : Int) (A2 : Option Addr) (c2 : Nat) (l2 : List S58) (r : Bool) (w : World) (hr2 : Kd.C k58 w A2 l2.length l2) (hc2 : l2.length ≤ c2) (h : selvedgelaw21_ArmPlays.f a0 a1 l2 = some r) :
    Calls Try.prog 8 #[.int .u8 a0, .int .u8 a1, .slice A2 l2.length c2] w fun e w' => e = .returned (.bool r) ∧ Below w.heap.size w w' := by
  unfold selvedgelaw21_ArmPlays.f at h
  by_cases hg : 0 ≤ a0 ∧ a0 < 256 ∧ 0 ≤ a1 ∧ a1 < 256
  · rw [if_pos hg] at h
    obtain rfl := Option.some.inj h
    have hp := play_calls a0 a1 ⟨hg.1, hg.2.1⟩ hg.2.2 A2 c2 l2 w hr2
    have hi := inv_play l2 (okP a0 a1)
    generalize (playL (a0 % 4 + 1) (a1 % 64 + 1) l2).1 = s at *
    generalize (playL (a0 % 4 + 1) (a1 % 64 + 1) l2).2 = L at *
    clear h hr2 hc2 hg
    go_enter Try.func8, Try.ntmps8
    go_wp2_with (first | (go_at_call 18; with_reducible refine hp.mono ?_; rintro e w1 ⟨⟨gc, gr, rfl, Pc, Pr, hT⟩, hb⟩; have HT := Aside0.mk hT; have HB := Aside0.mk hb; clear hT hb) | (go_at_call 14; with_reducible refine (live_calls _).mono ?_; rintro e w2 ⟨rfl, hb2⟩; have HT2 := Aside0.mk (Two.below HT.out hb2); have HB2 := Aside0.mk (below_step HB.out hb2); clear hb2) | (go_at_call 23; with_reducible refine (same_calls _ _ _ _ _ _ _ _ HT2.out hi).mono ?_; rintro e w3 ⟨rfl, hb3⟩; have HB3 := Aside0.mk (below_step HB2.out hb3); clear hb3))
    go_ret
    exact ⟨rfl, HB3.out⟩
  · rw [if_neg hg] at h; cases h
end Go.Proofs.Ytfbjeiloefocgaa.PP
