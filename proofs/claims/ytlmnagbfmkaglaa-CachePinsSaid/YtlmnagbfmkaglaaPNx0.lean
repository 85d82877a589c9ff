import Derived.Test.YtlmnagbfmkaglaaHA
/-! The walk of the law CachePins. -/
namespace Go.Proofs.Ytlmnagbfmkaglaa.PN
open Go.RowKit Go.Proofs.Ytlmnagbfmkaglaa.PG Go.Proofs.Ytlmnagbfmkaglaa.PI Go.Proofs.Ytlmnagbfmkaglaa.CC Go.Proofs.YtlmnagbfmkaglaaW.PrintWords Go.Proofs.YtlmnagbfmkaglaaW.PrintLast Go.Proofs.YtlmnagbfmkaglaaW.PrintMore
attribute [local go_sem] Oper.semAt_some
/-- A block is at hand, and held so often. -/
def St (b q : Int) (M : List S59) : Prop := ∃ x ∈ M, x.f0 = b ∧ x.f1 = q
theorem st_ix {b q : Int} {M : List S59} (h : St b q M) : ¬ ix M b < 0 := by
  obtain ⟨x, hx, e, -⟩ := h
  have := ix_pos.2 ⟨x, hx, e⟩
  omega
theorem st_up {k : Nat} {most b q : Int} {M : List S59} (hi : Inv k most M) (hk : k < 1000) (h : St b q M) : (pinL M b true).1 = 0 ∧ St b (q + 1) (pinL M b true).2 := by
  have hix := st_ix h
  obtain ⟨x, hx, e, eq⟩ := h
  unfold pinL
  rw [if_neg hix]
  refine ⟨rfl, (pin1 x true).2, List.mem_map.2 ⟨x, hx, by rw [if_pos e]⟩, e, ?_⟩
  show wrap64 (x.f1 + 1) = q + 1
  have := hi.pins x hx
  unfold wrap64; omega
theorem st_dn {k : Nat} {most b q : Int} {M : List S59} (hi : Inv k most M) (hk : k < 1000) (h : St b q M) (hq : 0 < q) : (pinL M b false).1 = 0 ∧ St b (q - 1) (pinL M b false).2 := by
  have hix := st_ix h
  obtain ⟨x, hx, e, eq⟩ := h
  have hat := atL_eq hi.nd hx e
  have hp := hi.pins x hx
  unfold pinL
  rw [if_neg hix, hat]
  have h1 : pin1 x false = (0, ⟨x.f0, wrap64 (x.f1 - 1), x.f2, x.f3⟩) := by unfold pin1; rw [if_neg (by decide), if_neg (by omega)]
  refine ⟨by rw [h1], (pin1 x false).2, List.mem_map.2 ⟨x, hx, by rw [if_pos e]⟩, by rw [h1]; exact e, ?_⟩
  rw [h1]
  show wrap64 (x.f1 - 1) = q - 1
  unfold wrap64; omega
theorem st_no {k : Nat} {most b : Int} {M : List S59} (hi : Inv k most M) (h : St b 0 M) : (pinL M b false).1 = 13 := by
  have hix := st_ix h
  obtain ⟨x, hx, e, eq⟩ := h
  unfold pinL
  rw [if_neg hix, atL_eq hi.nd hx e]
  unfold pin1
  rw [if_neg (by decide), if_pos eq]
theorem st_pins {k : Nat} {most b q : Int} {M : List S59} (hi : Inv k most M) (h : St b q M) : pinsC M b = q := by
  have hix := st_ix h
  obtain ⟨x, hx, e, eq⟩ := h
  unfold pinsC
  rw [if_neg hix]
  exact (congrArg S59.f1 (atL_eq hi.nd hx e)).trans eq
def One (B : Nat) (w : World) (g : Nat) (k : Nat) (most : Int) (p : List S59 → Prop) : Prop := ∃ P L, AC B P w g most L ∧ Inv k most L ∧ p L
theorem one_up {k : Nat} {w0 w : World} {g : Nat} {most b q : Int} (hB : Below w0.heap.size w0 w) (h : One w0.heap.size w g k most (St b q)) (hk : k < 1000) : Calls Try.prog 16 #[.pointer (some ⟨g, 0, none⟩), .int .i64 b, .bool true] w fun e w' => e = .returned (.int .i64 0) ∧ Aside0 (One w0.heap.size w' g (k + 1) most (St b (q + 1)) ∧ Below w0.heap.size w0 w') := by
  obtain ⟨P, L, h1, h2, h3⟩ := h
  obtain ⟨e1, e2⟩ := st_up h2 hk h3
  refine (Pin_A g P most L b w0 w true hB h1 h2).mono ?_
  rintro e w' ⟨rfl, hc, hb, -⟩
  exact ⟨by rw [e1], ⟨⟨_, _, hc, inv_pin b true h2 hk, e2⟩, hb⟩⟩
theorem one_dn {k : Nat} {w0 w : World} {g : Nat} {most b q : Int} (hB : Below w0.heap.size w0 w) (h : One w0.heap.size w g k most (St b q)) (hk : k < 1000) (hq : 0 < q) : Calls Try.prog 16 #[.pointer (some ⟨g, 0, none⟩), .int .i64 b, .bool false] w fun e w' => e = .returned (.int .i64 0) ∧ Aside0 (One w0.heap.size w' g (k + 1) most (St b (q - 1)) ∧ Below w0.heap.size w0 w') := by
  obtain ⟨P, L, h1, h2, h3⟩ := h
  obtain ⟨e1, e2⟩ := st_dn h2 hk h3 hq
  refine (Pin_A g P most L b w0 w false hB h1 h2).mono ?_
  rintro e w' ⟨rfl, hc, hb, -⟩
  exact ⟨by rw [e1], ⟨⟨_, _, hc, inv_pin b false h2 hk, e2⟩, hb⟩⟩
theorem one_no {k : Nat} {w0 w : World} {g : Nat} {most b : Int} (hB : Below w0.heap.size w0 w) (h : One w0.heap.size w g k most (St b 0)) : Calls Try.prog 16 #[.pointer (some ⟨g, 0, none⟩), .int .i64 b, .bool false] w fun e w' => e = .returned (.int .i64 13) ∧ Below w0.heap.size w0 w' := by
  obtain ⟨P, L, h1, h2, h3⟩ := h
  have e1 := st_no h2 h3
  refine (Pin_A g P most L b w0 w false hB h1 h2).mono ?_
  rintro e w' ⟨rfl, hc, hb, -⟩
  exact ⟨by rw [e1], hb⟩
theorem one_pins {k B : Nat} {w : World} {g : Nat} {most b q : Int} (h : One B w g k most (St b q)) : Calls Try.prog 21 #[.pointer (some ⟨g, 0, none⟩), .int .i64 b] w fun e w' => e = .returned (.int .i64 q) ∧ Below w.heap.size w w' := by
  obtain ⟨P, L, h1, h2, h3⟩ := h
  have := Pins_A g P most L b w h1 h2
  rw [st_pins h2 h3] at this
  exact this
theorem One.below {k B : Nat} {w w' : World} {g : Nat} {most : Int} {p : List S59 → Prop} (h : One B w g k most p) (hb : Below w.heap.size w w') : One B w' g k most p := by
  obtain ⟨P, L, h1, h2, h3⟩ := h
  exact ⟨P, L, h1.below hb, h2, h3⟩
def selvedgelaw08_CachePins.f (_l0 : List S50) (_a1 a2 : Int) : Option Bool := if 0 ≤ a2 ∧ a2 < 256 then some true else none
set_option maxHeartbeats 4000000 in
set_option maxRecDepth 100000 in
theorem selvedgelaw08_CachePins.calls (A0 : Option Addr) (c0 : Nat) (l0 : List S50) (a1 a2 : Int) (r : Bool) (w : World) (hr0 : Kd.C k50 w A0 l0.length l0) (hc0 : l0.length ≤ c0) (h : selvedgelaw08_CachePins.f l0 a1 a2 = some r) :
    Calls Try.prog 7 #[.slice A0 l0.length c0, .int .i64 a1, .int .u8 a2] w fun e w' => e = .returned (.bool r) ∧ Below w.heap.size w w' := by
  unfold selvedgelaw08_CachePins.f at h
  by_cases ha : 0 ≤ a2 ∧ a2 < 256
  rotate_left
  · rw [if_neg ha] at h; exact absurd h (by simp)
  rw [if_pos ha] at h
  obtain rfl := Option.some.inj h
  have hp := play_calls a2 ha A0 c0 l0 w hr0
  have hi := inv_play (most := a2 % 8 + 1) l0 (by omega) (by omega)
  have hlv := fun W => live_calls W
  obtain ⟨L, hL⟩ : ∃ L, playL (a2 % 8 + 1) l0 = L := ⟨_, rfl⟩
  rw [hL] at hp hi
  generalize hm : a2 % 8 + 1 = m at *
  clear h hr0 hc0 hL hm
  obtain ⟨N, hN, hN9⟩ : ∃ N : Nat, (wrap64 a2).tmod 9 = (N : Int) ∧ N < 9 := ⟨(a2 % 9).toNat, by rw [show wrap64 a2 = a2 by unfold wrap64; omega, Int.tmod_eq_emod_of_nonneg ha.1]; omega, by omega⟩
  have EN := Aside0.mk hN
  clear hN ha
  by_cases hix : ix L a1 < 0
  · have hhas : hasC L a1 = false := decide_eq_false (by omega)
    have hpin : pinL L a1 true = (5, L) := by unfold pinL; rw [if_pos hix]
    have hpins : pinsC L a1 = 0 := by unfold pinsC; rw [if_pos hix]
    go_enter Try.func7, Try.ntmps7
    go_upto_region 4 with (first | (go_at_call 14; with_reducible refine hp.mono ?_; rintro e w1 ⟨⟨gc, gr, rfl, Pc, Pr, hT⟩, hb⟩; have HT := Aside0.mk hT; have HB := Aside0.mk hb; clear hT hb) | (go_at_call 12; with_reducible refine (hlv _).mono ?_; rintro e w2 ⟨rfl, hb2⟩; have HT2 := Aside0.mk (Two.below HT.out hb2); have HB2 := Aside0.mk (below_step HB.out hb2); clear hb2))
    have c15 := Has_A gc Pc m L a1 w2 HT2.out.ac hi
    rw [hhas] at c15
    go_upto_region 5 with (go_at_call 15; with_reducible refine c15.mono ?_; rintro e w3 ⟨rfl, hb3⟩; have HT3 := Aside0.mk (Two.below HT2.out hb3); have HB3 := Aside0.mk (below_step HB2.out hb3); clear hb3)
    have c16 : Calls Try.prog 16 #[.pointer (some ⟨gc, 0, none⟩), .int .i64 a1, .bool true] w3 fun e w' => e = .returned (.int .i64 5) ∧ Aside0 ((∃ Pc' Pr', Two w.heap.size Pc' Pr' w' gc gr m L) ∧ Below w.heap.size w w') := by
      refine (Pin_A gc _ m L a1 w w3 true HB3.out (HT3.out.ac) hi).mono ?_
      rintro e w' ⟨rfl, hc, hb, hk⟩
      rw [hpin] at hc ⊢
      exact ⟨rfl, ⟨⟨_, _, hc, (HT3.out.ar.kept hk (fun k h1 h2 => HT3.out.ap k h2 h1)).mono (fun k hk => hk.1), HT3.out.ap⟩, hb⟩⟩
    clear c15 HT HT2 HB HB2 hp hlv
    go_wp2_with (first | (go_at_call 16; with_reducible refine c16.mono ?_; rintro e w4 ⟨rfl, ha4⟩; obtain ⟨⟨Qc, Qr, hT4⟩, hB4⟩ := ha4.out; have HT4 := Aside0.mk hT4; have HB4 := Aside0.mk hB4; have c21 := Pins_A gc Qc m L a1 w4 HT4.out.ac hi; rw [hpins] at c21; clear hT4 hB4) | (go_at_call 21; with_reducible refine c21.mono ?_; rintro e w5 ⟨rfl, hb5⟩; have HT5 := Aside0.mk (Two.below HT4.out hb5); have HB5 := Aside0.mk (below_step HB4.out hb5); clear hb5) | (go_at_call 19; with_reducible refine (same_calls _ _ _ _ _ _ _ _ HT5.out hi).mono ?_; rintro e w6 ⟨rfl, hb6⟩))
    go_ret
    exact ⟨rfl, below_step HB5.out hb6⟩
  · have hhas : hasC L a1 = true := decide_eq_true (by omega)
    obtain ⟨x, hx, hx0⟩ := ix_pos.1 (show 0 ≤ ix L a1 by omega)
    obtain ⟨q0, hq0⟩ := Int.eq_ofNat_of_zero_le (hi.pins x hx).1
    have hq80 : q0 ≤ 80 := by have := (hi.pins x hx).2; omega
    have hst : St a1 (q0 : Int) L := ⟨x, hx, hx0, hq0⟩
    have HST := Aside0.mk hst
    clear hst hx hx0 hq0
    go_enter Try.func7, Try.ntmps7
    go_upto_region 4 with (first | (go_at_call 14; with_reducible refine hp.mono ?_; rintro e w1 ⟨⟨gc, gr, rfl, Pc, Pr, hT⟩, hb⟩; have HT := Aside0.mk hT; have HB := Aside0.mk hb; clear hT hb) | (go_at_call 12; with_reducible refine (hlv _).mono ?_; rintro e w2 ⟨rfl, hb2⟩; have HT2 := Aside0.mk (Two.below HT.out hb2); have HB2 := Aside0.mk (below_step HB.out hb2); clear hb2))
    have c15 := Has_A gc Pc m L a1 w2 HT2.out.ac hi
    rw [hhas] at c15
    go_upto_region 6 with (go_at_call 15; with_reducible refine c15.mono ?_; rintro e w3 ⟨rfl, hb3⟩; have HT3 := Aside0.mk (Two.below HT2.out hb3); have HB3 := Aside0.mk (below_step HB2.out hb3); clear hb3)
    have hone : One w.heap.size w3 gc 80 m (St a1 (q0 : Int)) := ⟨_, _, HT3.out.ac, hi, HST.out⟩
    have c21 := one_pins hone
    have H1 := Aside0.mk hone
    clear c15 HT HT2 HT3 HB HB2 hp hlv hone
    go_wp2_with (first | (go_at_call 21; with_reducible refine c21.mono ?_; rintro e w4 ⟨rfl, hb4⟩; have H4 := Aside0.mk (One.below H1.out hb4); have HB4 := Aside0.mk (below_step HB3.out hb4); clear hb4))
    go_loopg [11] N (fun kq v11 w' => ∃ i : Nat, i + kq = N ∧ v11 = .int .i64 (i : Int) ∧ Aside0 (One w.heap.size w' gc (80 + i) m (St a1 ((q0 + i : Nat) : Int))) ∧ Aside0 (Below w.heap.size w w'))
    case atStart => exact ⟨0, by omega, rfl, H4, HB4⟩
    case round =>
      obtain ⟨i, hiq, rfl, hO, hb⟩ := hrel
      clear H4 HB4 H1 HB3
      cases gk with
      | succ k1 =>
        have d0 : decide ((i : Int) < (wrap64 a2).tmod 9) = true := by rw [EN.out]; simp; omega
        have hup := one_up hb.out hO.out (by omega)
        have ew : Aside0 (wrap64 ((i : Int) + 1) = ((i + 1 : Nat) : Int)) := ⟨by unfold wrap64; omega⟩
        go_wp2_with (go_at_call 16; with_reducible refine hup.mono ?_; rintro e w5 ⟨rfl, h5⟩)
        go_roundg k1
        case rel => exact ⟨i + 1, by omega, by first | rfl | rw [ew.out], ⟨h5.out.1⟩, ⟨h5.out.2⟩⟩
        all_goals omega
      | zero =>
        obtain rfl : i = N := by omega
        have d0 : decide ((i : Int) < (wrap64 a2).tmod 9) = false := by rw [EN.out]; simp
        have HO := Aside0.mk hO.out
        go_wp2
        go_loopg [12] (q0 + i) (fun kq v12 w' => ∃ j : Nat, j + kq = q0 + i ∧ v12 = .int .i64 (j : Int) ∧ Aside0 (One w.heap.size w' gc (80 + i + j) m (St a1 (kq : Int))) ∧ Aside0 (Below w.heap.size w w'))
        case atStart => exact ⟨0, by omega, rfl, HO, hb⟩
        case round =>
          obtain ⟨j, hjq, rfl, hO2, hb2⟩ := hrel
          clear HO hO hb
          cases gk with
          | succ k1 =>
            have d1 : decide ((j : Int) < wrap64 ((q0 : Int) + (wrap64 a2).tmod 9)) = true := by rw [EN.out, show wrap64 ((q0 : Int) + (i : Int)) = ((q0 + i : Nat) : Int) by unfold wrap64; omega]; simp; omega
            have d2 : decide (100 < (j : Int)) = false := by simp; omega
            have hdn := one_dn hb2.out hO2.out (by omega) (by omega)
            have ew : Aside0 (wrap64 ((j : Int) + 1) = ((j + 1 : Nat) : Int)) := ⟨by unfold wrap64; omega⟩
            have ek : Aside0 ((((k1 + 1 : Nat) : Int)) - 1 = (k1 : Int)) := ⟨by omega⟩
            go_wp2_with (go_at_call 16; with_reducible refine hdn.mono ?_; rintro e w5 ⟨rfl, h5⟩)
            go_roundg k1
            case rel => exact ⟨j + 1, by omega, by first | rfl | rw [ew.out], ⟨by rw [← ek.out]; exact h5.out.1⟩, ⟨h5.out.2⟩⟩
            all_goals omega
          | zero =>
            have d1 : decide ((j : Int) < wrap64 ((q0 : Int) + (wrap64 a2).tmod 9)) = false := by rw [EN.out, show wrap64 ((q0 : Int) + (i : Int)) = ((q0 + i : Nat) : Int) by unfold wrap64; omega]; simp; omega
            have c21 := one_pins hO2.out
            go_wp2_with (first | (go_at_call 21; with_reducible refine c21.mono ?_; rintro e w6 ⟨rfl, hb6⟩; have c16 := one_no (below_step hb2.out hb6) (One.below hO2.out hb6); clear hb6) | (go_at_call 16; with_reducible refine c16.mono ?_; rintro e w7 ⟨rfl, hb7⟩))
            go_ret
            exact ⟨rfl, hb7⟩
end Go.Proofs.Ytlmnagbfmkaglaa.PN
