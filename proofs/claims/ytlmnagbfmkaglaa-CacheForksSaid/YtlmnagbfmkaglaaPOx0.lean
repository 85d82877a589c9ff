import Derived.Test.YtlmnagbfmkaglaaHA
/-! The walk of the law CacheForks. -/
namespace Go.Proofs.Ytlmnagbfmkaglaa.PO
open Go.RowKit Go.Proofs.Ytlmnagbfmkaglaa.PG Go.Proofs.Ytlmnagbfmkaglaa.PI Go.Proofs.Ytlmnagbfmkaglaa.CC Go.Proofs.YtlmnagbfmkaglaaW.PrintWords Go.Proofs.YtlmnagbfmkaglaaW.PrintLast Go.Proofs.YtlmnagbfmkaglaaW.PrintMore
attribute [local go_sem] Oper.semAt_some
theorem ac_lower {B B' : Nat} {P : Nat → Prop} {w : World} {g : Nat} {most : Int} {L : List S59} (h : AC B P w g most L) (hb : B' ≤ B) : AC B' P w g most L := by
  obtain ⟨row, hand, ⟨h1, h2, v, h3, h4⟩, h5, h6⟩ := h
  exact ⟨row, hand, ⟨Nat.le_trans hb h1, h2, v, h3, Kd.R_lower h4 hb⟩, h5, h6⟩
theorem ar_lower {B B' : Nat} {P : Nat → Prop} {w : World} {g : Nat} {most : Int} {L : List S59} (h : AR B P w g most L) (hb : B' ≤ B) : AR B' P w g most L := by
  obtain ⟨h1, h2, v, h3, h4⟩ := (show RS B P w g most (L.map cv) from h)
  exact ⟨Nat.le_trans hb h1, h2, v, h3, Kd.R_lower h4 hb⟩
theorem two_kept {B : Nat} {Pc Pr S : Nat → Prop} {w w' : World} {gc gr : Nat} {most : Int} {L : List S59} (h : Two B Pc Pr w gc gr most L) (hk : Kept w w' S) (h1 : ∀ k, Pc k → ¬ S k) (h2 : ∀ k, Pr k → ¬ S k) : Two B Pc Pr w' gc gr most L :=
  ⟨(h.ac.kept hk h1).mono (fun k hk => hk.1), (h.ar.kept hk h2).mono (fun k hk => hk.1), h.ap⟩
/-- Two caches each, apart. -/
def Four (B n : Nat) (w : World) (gc gr fc fr : Nat) (most : Int) (L M : List S59) : Prop :=
  (∃ Pc Pr, Two B Pc Pr w gc gr most L ∧ (∀ k, Pc k → k < n) ∧ (∀ k, Pr k → k < n)) ∧ ∃ Qc Qr, Two B Qc Qr w fc fr most M ∧ (∀ k, Qc k → n ≤ k) ∧ (∀ k, Qr k → n ≤ k)
def selvedgelaw08_CacheForks.f (_l0 _l1 : List S50) : Option Bool := some true
set_option maxHeartbeats 2000000 in
set_option maxRecDepth 100000 in
theorem selvedgelaw08_CacheForks.calls (A0 : Option Addr) (c0 : Nat) (l0 : List S50) (A1 : Option Addr) (c1 : Nat) (l1 : List S50) (r : Bool) (w : World) (hr0 : Kd.C k50 w A0 l0.length l0) (hc0 : l0.length ≤ c0) (hr1 : Kd.C k50 w A1 l1.length l1) (hc1 : l1.length ≤ c1) (h : selvedgelaw08_CacheForks.f l0 l1 = some r) :
    Calls Try.prog 8 #[.slice A0 l0.length c0, .slice A1 l1.length c1] w fun e w' => e = .returned (.bool r) ∧ Below w.heap.size w w' := by
  obtain rfl := Option.some.inj h
  have hp := play_calls 3 (by decide) A0 c0 l0 w hr0
  have hi := inv_play (most := 3 % 8 + 1) l0 (by decide) (by decide)
  have hlv := fun W => live_calls W
  obtain ⟨m, hm⟩ : ∃ m : Int, (3 : Int) % 8 + 1 = m := ⟨_, rfl⟩
  rw [hm] at hp hi
  obtain ⟨L, hL⟩ : ∃ L, playL m l0 = L := ⟨_, rfl⟩
  rw [hL] at hp hi
  have HC := Aside0.mk hr1
  clear h hr0 hc0 hc1 hr1 hm hL
  go_enter Try.func8, Try.ntmps8
  go_upto_region 4 with (first | (go_at_call 14; with_reducible refine hp.mono ?_; rintro e w1 ⟨⟨gc, gr, rfl, Pc, Pr, hT⟩, hb⟩; have HT := Aside0.mk hT; have HB := Aside0.mk hb; clear hT hb) | (go_at_call 12; with_reducible refine (hlv _).mono ?_; rintro e w2 ⟨rfl, hb2⟩; have HT2 := Aside0.mk (Two.below HT.out hb2); have HB2 := Aside0.mk (below_step HB.out hb2); clear hb2))
  go_wp2_with (first | (go_at_call 22; with_reducible refine (Fork_A _ _ _ _ _ HT2.out.ac hi).mono ?_; rintro e w3 ⟨⟨fc, rfl, hfc⟩, hb3⟩; have HF3 := Aside0.mk hfc; have HB3 := Aside0.mk hb3; clear hfc hb3) | (go_at_call 23; with_reducible refine (Fork_R _ _ _ _ _ (AR.below HT2.out.ar HB3.out) hi).mono ?_; rintro e w4 ⟨⟨fr, rfl, hfr⟩, hb4⟩; have HF4 := Aside0.mk hfr; have HB4 := Aside0.mk hb4; clear hfr hb4))
  have hfour : Four w.heap.size w2.heap.size w4 gc gr fc fr m L L := by
    refine ⟨⟨_, _, (HT2.out.bound).below (below_step HB3.out HB4.out), fun k hk => hk.2, fun k hk => hk.2⟩, fun k => w2.heap.size ≤ k ∧ k < w3.heap.size, fun k => w3.heap.size ≤ k, ⟨ac_lower ((HF3.out.bound).below HB4.out) HB2.out.size, ar_lower HF4.out (Nat.le_trans HB2.out.size HB3.out.size), fun k h1 h2 => by have := h1.2; omega⟩, fun k hk => hk.1, fun k hk => Nat.le_trans HB3.out.size hk⟩
  have HFO := Aside0.mk hfour
  have HBW := Aside0.mk (below_step HB2.out (below_step HB3.out HB4.out))
  have hn2 : w2.heap.size ≤ w4.heap.size := Nat.le_trans HB3.out.size HB4.out.size
  have HN2 := Aside0.mk hn2
  generalize w2.heap.size = n2 at *
  clear hfour HF3 HF4 HB3 HB4 HT2 HB2 HT HB hp hlv hn2
  go_loopg [10] (min l1.length 20) (fun kq v10 w' => ∃ i : Nat, i + kq = min l1.length 20 ∧ v10 = .int .i64 (i : Int) ∧ Aside0 (∃ M, Four w.heap.size n2 w' gc gr fc fr m L M ∧ Inv (80 + i) m M) ∧ Aside0 (n2 ≤ w'.heap.size) ∧ Aside0 (Below w.heap.size w w'))
  case atStart => exact ⟨0, by omega, rfl, ⟨L, HFO.out, hi⟩, HN2, HBW⟩
  case round =>
    clear HN2
    obtain ⟨i, hiq, rfl, hF, hN2, hb⟩ := hrel
    clear HFO HBW
    cases gk with
    | succ k1 =>
      have hlt : i < l1.length := by omega
      have d1 : decide ((i : Int) < (l1.length : Int)) = true := by simp; omega
      have d2 : decide ((i : Int) < 20) = true := by simp; omega
      have p1 : (0 ≤ (i : Int)) = True := eq_true (by omega)
      have p2 : ((i : Int) < (l1.length : Int)) = True := eq_true (by omega)
      obtain ⟨ad, ea, x0, x1, x2⟩ := at_50 (Kd.C_below HC.out hb.out) i hlt
      cases ea
      obtain ⟨x, hx⟩ : ∃ x, l1[i] = x := ⟨_, rfl⟩
      rw [hx] at x0 x1 x2
      have hdo : Calls Try.prog 24 #[.pointer (some ⟨fc, 0, none⟩), .pointer (some ⟨fr, 0, none⟩), .agg #[.int .i64 x.f0, .int .i64 x.f1, .bool x.f2]] wr fun e w' => e = .returned (.bool true) ∧ Aside0 ((∃ M, Four w.heap.size n2 w' gc gr fc fr m L M ∧ Inv (80 + (i + 1)) m M) ∧ n2 ≤ w'.heap.size ∧ Below w.heap.size w w') := by
        obtain ⟨M, ⟨⟨Pc, Pr, hT, hP1, hP2⟩, Qc, Qr, hU, hQ1, hQ2⟩, hinv⟩ := hF.out
        refine (do_calls x.f0 Qc Qr fc fr m M x.f1 x.f2 w wr hb.out hU hinv).mono ?_
        rintro e w' ⟨rfl, ⟨Qc', Qr', h1, h2, h3⟩, h4, h5⟩
        have hsz := hN2.out
        refine ⟨rfl, ⟨⟨_, ⟨⟨Pc, Pr, two_kept hT h5 (fun k hk e => ?_) (fun k hk e => ?_), hP1, hP2⟩, Qc', Qr', h1, fun k hk => ?_, fun k hk => ?_⟩, inv_step x.f0 x.f1 x.f2 hinv (show 80 + i < 1000 by omega)⟩, Nat.le_trans hsz h5.1, h4⟩⟩
        · have := hP1 k hk
          rcases e with e | e
          · have := hQ1 k e; omega
          · have := hQ2 k e; omega
        · have := hP2 k hk
          rcases e with e | e
          · have := hQ1 k e; omega
          · have := hQ2 k e; omega
        · rcases h2 k hk with e | e
          · exact hQ1 k e
          · omega
        · rcases h3 k hk with e | e
          · exact hQ2 k e
          · omega
      have ew : Aside0 (wrap64 ((i : Int) + 1) = ((i + 1 : Nat) : Int)) := ⟨by unfold wrap64; omega⟩
      clear hx
      go_wp2_with (go_at_call 24; with_reducible refine hdo.mono ?_; rintro e w3 ⟨rfl, hd⟩)
      go_roundg k1
      case rel => exact ⟨i + 1, by omega, by first | rfl | rw [ew.out], ⟨hd.out.1⟩, ⟨hd.out.2.1⟩, ⟨hd.out.2.2⟩⟩
      all_goals omega
    | zero =>
      obtain ⟨M, ⟨⟨Pc, Pr, hT, hP1, hP2⟩, Qc, Qr, hU, hQ1, hQ2⟩, hinv⟩ := hF.out
      have HT := Aside0.mk hT
      have HU := Aside0.mk hU
      clear hT hU
      by_cases h20 : i < l1.length
      · have d1 : decide ((i : Int) < (l1.length : Int)) = true := by simp; omega
        have d2 : decide ((i : Int) < 20) = false := by simp; omega
        go_upto_region 10 with (fail)
        go_wp2_with (first | (go_at_call 19; first | (with_reducible refine (same_calls _ _ _ _ _ _ _ _ HT.out hi).mono ?_; rintro e w3 ⟨rfl, hb3⟩; have HU3 := Aside0.mk (Two.below HU.out hb3); have HB3 := Aside0.mk (below_step hb.out hb3); clear hb3) | (with_reducible refine (same_calls _ _ _ _ _ _ _ _ HU3.out hinv).mono ?_; rintro e w4 ⟨rfl, hb4⟩)))
        go_ret
        exact ⟨rfl, below_step HB3.out hb4⟩
      · have d1 : decide ((i : Int) < (l1.length : Int)) = false := by simp; omega
        go_upto_region 10 with (fail)
        go_wp2_with (first | (go_at_call 19; first | (with_reducible refine (same_calls _ _ _ _ _ _ _ _ HT.out hi).mono ?_; rintro e w3 ⟨rfl, hb3⟩; have HU3 := Aside0.mk (Two.below HU.out hb3); have HB3 := Aside0.mk (below_step hb.out hb3); clear hb3) | (with_reducible refine (same_calls _ _ _ _ _ _ _ _ HU3.out hinv).mono ?_; rintro e w4 ⟨rfl, hb4⟩)))
        go_ret
        exact ⟨rfl, below_step HB3.out hb4⟩
end Go.Proofs.Ytlmnagbfmkaglaa.PO
