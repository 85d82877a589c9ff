import Derived.Test.YtfbjeiloefocgaaYD
/-! The walk of the law ArmForks. -/
namespace Go.Proofs.Ytfbjeiloefocgaa.PS
open Go.RowKit Go.Proofs.Ytfbjeiloefocgaa.Fl Go.Proofs.Ytfbjeiloefocgaa.PL Go.Proofs.Ytfbjeiloefocgaa.CC Go.Proofs.Ytfbjeiloefocgaa.PG Go.Proofs.YtfbjeiloefocgaaW.PrintWords Go.Proofs.YtfbjeiloefocgaaW.PrintLast Go.Proofs.YtfbjeiloefocgaaW.PrintMore
attribute [local go_sem] Oper.semAt_some

theorem two_kept {B : Nat} {Pc Pr S : Nat → Prop} {w w' : World} {gc gr : Nat} {s : Sc} {L : List S77} (h : Two B Pc Pr w gc gr s L) (hk : Kept w w' S) (h1 : ∀ k, Pc k → ¬ S k) (h2 : ∀ k, Pr k → ¬ S k) : Two B Pc Pr w' gc gr s L :=
  ⟨(h.ac.kept hk h1).mono (fun k hk => hk.1), (h.ar.kept hk h2).mono (fun k hk => hk.1), h.ap⟩
/-- Two arms each, apart. -/
def Four (B n : Nat) (w : World) (gc gr fc fr : Nat) (s : Sc) (L : List S77) (st : Sc × List S77) : Prop :=
  (∃ Pc Pr, Two B Pc Pr w gc gr s L ∧ (∀ k, Pc k → k < n) ∧ (∀ k, Pr k → k < n)) ∧ ∃ Qc Qr, Two B Qc Qr w fc fr st.1 st.2 ∧ (∀ k, Qc k → n ≤ k) ∧ (∀ k, Qr k → n ≤ k)
def selvedgelaw21_ArmForks.f (a0 : Int) (_l1 _l2 : List S58) : Option Bool := if 0 ≤ a0 ∧ a0 < 256 then some true else none
set_option maxHeartbeats 4000000 in
set_option maxRecDepth 100000 in
theorem selvedgelaw21_ArmForks.calls (a0 : Int) (A1 : Option Addr) (c1 : Nat) (l1 : List S58) (A2 : Option Addr) (c2 : Nat) (l2 : List S58) (r : Bool) (w : World) (hr1 : Kd.C k58 w A1 l1.length l1) (hc1 : l1.length ≤ c1) (hr2 : Kd.C k58 w A2 l2.length l2) (hc2 : l2.length ≤ c2) (h : selvedgelaw21_ArmForks.f a0 l1 l2 = some r) :
    Calls Try.prog 9 #[.int .u8 a0, .slice A1 l1.length c1, .slice A2 l2.length c2] w fun e w' => e = .returned (.bool r) ∧ Below w.heap.size w w' := by
  unfold selvedgelaw21_ArmForks.f at h
  have hg : 0 ≤ a0 ∧ a0 < 256 := by
    by_cases hg : 0 ≤ a0 ∧ a0 < 256
    · exact hg
    · rw [if_neg hg] at h; cases h
  rw [if_pos hg] at h
  obtain rfl := Option.some.inj h
  have hp := play_calls a0 7 hg (by decide) A1 c1 l1 w hr1
  have hi := inv_play l1 (okP a0 7)
  generalize (playL (a0 % 4 + 1) (7 % 64 + 1) l1).1 = s at *
  generalize (playL (a0 % 4 + 1) (7 % 64 + 1) l1).2 = L at *
  have HC := Aside0.mk hr2
  clear h hr1 hc1 hc2 hr2 hg
  go_enter Try.func9, Try.ntmps9
  go_upto_region 4 with (first | (go_at_call 18; with_reducible refine hp.mono ?_; rintro e w1 ⟨⟨gc, gr, rfl, Pc, Pr, hT⟩, hb⟩; have HT := Aside0.mk hT; have HB := Aside0.mk hb; clear hT hb) | (go_at_call 14; with_reducible refine (live_calls _).mono ?_; rintro e w2 ⟨rfl, hb2⟩; have HT2 := Aside0.mk (Two.below HT.out hb2); have HB2 := Aside0.mk (below_step HB.out hb2); clear hb2))
  go_upto_region 5 with (first | (go_at_call 24; with_reducible refine (Fork_calls _ _ _ _ _ _ HT2.out.ac hi.lt).mono ?_; rintro e w3 ⟨⟨fc, rfl, hfc⟩, hb3⟩; have HF3 := Aside0.mk hfc; have HB3 := Aside0.mk hb3; clear hfc hb3) | (go_at_call 25; with_reducible refine (ForkD_calls _ _ _ _ _ _ (DS.below HT2.out.ar HB3.out) (by rw [List.length_map]; exact hi.lt)).mono ?_; rintro e w4 ⟨⟨fr, rfl, hfr⟩, hb4⟩; have HF4 := Aside0.mk hfr; have HB4 := Aside0.mk hb4; clear hfr hb4))
  have hfour : Four w.heap.size w2.heap.size w4 gc gr fc fr s L (s, L) := by
    refine ⟨⟨_, _, (HT2.out.bound).below (below_step HB3.out HB4.out), fun k hk => hk.2, fun k hk => hk.2⟩, fun k => w2.heap.size ≤ k ∧ k < w3.heap.size, fun k => w3.heap.size ≤ k, ⟨((HF3.out.bound).below HB4.out).lower HB2.out.size, HF4.out.lower (Nat.le_trans HB2.out.size HB3.out.size), fun k h1 h2 => by have := h1.2; omega⟩, fun k hk => hk.1, fun k hk => Nat.le_trans HB3.out.size hk⟩
  have HFO := Aside0.mk hfour
  have HBW := Aside0.mk (below_step HB2.out (below_step HB3.out HB4.out))
  have hn2 : w2.heap.size ≤ w4.heap.size := Nat.le_trans HB3.out.size HB4.out.size
  have HN2 := Aside0.mk hn2
  generalize w2.heap.size = n2 at *
  clear hfour HF3 HF4 HB3 HB4 HT2 HB2 HT HB hp hn2
  go_wp2
  go_loopg [12] (min l2.length 20) (fun kq v12 w' => ∃ i : Nat, i + kq = min l2.length 20 ∧ v12 = .int .i64 (i : Int) ∧ Aside0 (∃ st : Sc × List S77, Four w.heap.size n2 w' gc gr fc fr s L st ∧ Inv (80 + i) st.1 st.2) ∧ Aside0 (n2 ≤ w'.heap.size) ∧ Aside0 (Below w.heap.size w w'))
  case atStart => exact ⟨0, by omega, rfl, ⟨(s, L), HFO.out, hi⟩, HN2, HBW⟩
  case round =>
    clear HN2
    obtain ⟨i, hiq, rfl, hF, hN2, hb⟩ := hrel
    clear HFO HBW
    cases gk with
    | succ k1 =>
      have hlt : i < l2.length := by omega
      have d1 : decide ((i : Int) < (l2.length : Int)) = true := by simp; omega
      have d2 : decide ((i : Int) < 20) = true := by simp; omega
      have p1 : (0 ≤ (i : Int)) = True := eq_true (by omega)
      have p2 : ((i : Int) < (l2.length : Int)) = True := eq_true (by omega)
      obtain ⟨ad, ea, x0, x1, x2⟩ := at_58 (Kd.C_below HC.out hb.out) i hlt
      cases ea
      obtain ⟨x, hx⟩ : ∃ x, l2[i] = x := ⟨_, rfl⟩
      rw [hx] at x0 x1 x2
      have hdo : Calls Try.prog 26 #[.pointer (some ⟨fc, 0, none⟩), .pointer (some ⟨fr, 0, none⟩), .agg #[.int .i64 x.f0, .int .i64 x.f1, .int .u8 x.f2]] wr fun e w' => e = .returned (.bool true) ∧ Aside0 ((∃ st : Sc × List S77, Four w.heap.size n2 w' gc gr fc fr s L st ∧ Inv (80 + (i + 1)) st.1 st.2) ∧ n2 ≤ w'.heap.size ∧ Below w.heap.size w w') := by
        obtain ⟨st, ⟨⟨Pc, Pr, hT, hP1, hP2⟩, Qc, Qr, hU, hQ1, hQ2⟩, hinv⟩ := hF.out
        refine (do_calls x.f0 Qc Qr fc fr st.1 st.2 x.f1 x.f2 w wr hb.out hU hinv (by omega)).mono ?_
        rintro e w' ⟨rfl, ⟨Qc', Qr', h1, h2, h3⟩, h4, h5⟩
        have hsz := hN2.out
        refine ⟨rfl, ⟨⟨_, ⟨⟨Pc, Pr, two_kept hT h5 (fun k hk e => ?_) (fun k hk e => ?_), hP1, hP2⟩, Qc', Qr', h1, fun k hk => ?_, fun k hk => ?_⟩, inv_step hinv x.f0 x.f1 x.f2⟩, Nat.le_trans hsz h5.1, h4⟩⟩
        · have := hP1 k hk
          rcases e with e | e
          · have := hQ1 k e; omega
          · have := hQ2 k e; omega
        · have := hP2 k hk
          rcases e with e | e
          · have := hQ1 k e; omega
          · have := hQ2 k e; omega
        · rcases h2 k hk with e | e
          · exact hQ1 k e
          · omega
        · rcases h3 k hk with e | e
          · exact hQ2 k e
          · omega
      have ew : Aside0 (wrap64 ((i : Int) + 1) = ((i + 1 : Nat) : Int)) := ⟨by unfold wrap64; omega⟩
      clear hx
      go_wp2_with (go_at_call 26; with_reducible refine hdo.mono ?_; rintro e w3 ⟨rfl, hd⟩)
      go_roundg k1
      case rel => exact ⟨i + 1, by omega, by first | rfl | rw [ew.out], ⟨hd.out.1⟩, ⟨hd.out.2.1⟩, ⟨hd.out.2.2⟩⟩
      all_goals omega
    | zero =>
      obtain ⟨st, ⟨⟨Pc, Pr, hT, hP1, hP2⟩, Qc, Qr, hU, hQ1, hQ2⟩, hinv⟩ := hF.out
      have HT := Aside0.mk hT
      have HU := Aside0.mk hU
      clear hT hU
      by_cases h20 : i < l2.length
      · have d1 : decide ((i : Int) < (l2.length : Int)) = true := by simp; omega
        have d2 : decide ((i : Int) < 20) = false := by simp; omega
        go_upto_region 10 with (fail)
        go_wp2_with (first | (go_at_call 23; first | (with_reducible refine (same_calls _ _ _ _ _ _ _ _ HT.out hi).mono ?_; rintro e w3 ⟨rfl, hb3⟩; have HU3 := Aside0.mk (Two.below HU.out hb3); have HB3 := Aside0.mk (below_step hb.out hb3); clear hb3) | (with_reducible refine (same_calls _ _ _ _ _ _ _ _ HU3.out hinv).mono ?_; rintro e w4 ⟨rfl, hb4⟩)))
        go_ret
        exact ⟨rfl, below_step HB3.out hb4⟩
      · have d1 : decide ((i : Int) < (l2.length : Int)) = false := by simp; omega
        have d1b : decide (i < l2.length) = false := by simp; omega
        go_upto_region 10 with (fail)
        go_wp2_with (first | (go_at_call 23; first | (with_reducible refine (same_calls _ _ _ _ _ _ _ _ HT.out hi).mono ?_; rintro e w3 ⟨rfl, hb3⟩; have HU3 := Aside0.mk (Two.below HU.out hb3); have HB3 := Aside0.mk (below_step hb.out hb3); clear hb3) | (with_reducible refine (same_calls _ _ _ _ _ _ _ _ HU3.out hinv).mono ?_; rintro e w4 ⟨rfl, hb4⟩)))
        go_ret
        exact ⟨rfl, below_step HB3.out hb4⟩
end Go.Proofs.Ytfbjeiloefocgaa.PS
