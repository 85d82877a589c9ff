import Derived.Test.YtfbjeiloefocgaaAN
/-! The walk of the law ArmFair. -/
namespace Go.Proofs.Ytfbjeiloefocgaa.PU
open Go.RowKit Go.Proofs.Ytfbjeiloefocgaa.Fl Go.Proofs.Ytfbjeiloefocgaa.PL Go.Proofs.Ytfbjeiloefocgaa.CC Go.Proofs.Ytfbjeiloefocgaa.PG Go.Proofs.YtfbjeiloefocgaaW.PrintWords Go.Proofs.YtfbjeiloefocgaaW.PrintLast Go.Proofs.YtfbjeiloefocgaaW.PrintMore
attribute [local go_sem] Oper.semAt_some

theorem at_u16 {w : World} {A : Option Addr} {xs : List Int} (h : Kd.C (Kd.int .u16) w A xs.length xs) (i : Nat) (h1 : i < xs.length) : ∃ ad, A = some ad ∧ w.cell? (ad.add i) = some (.int .u16 xs[i]) := by
  obtain ⟨ad, c, e, hs, hK, hc0⟩ := Kd.C_get h 0 (i : Int) (by omega) (by omega)
  have eg : xs.getD (i : Int).toNat 0 = xs[i] := by rw [Int.toNat_natCast, List.getD_eq_getElem?_getD, List.getElem?_eq_getElem h1, Option.getD_some]
  rw [eg] at hK
  have hK : c = [.int .u16 xs[i]] := hK
  subst hK
  have := hc0 0 _ rfl
  rw [Int.toNat_natCast] at this
  simp only [show (Kd.int .u16).sz = 1 from rfl, Nat.mul_one, Nat.add_zero] at this
  exact ⟨ad, e, this⟩
def selvedgelaw21_ArmFair.f (_l0 : List S58) (a1 : Int) (_l2 : List Int) : Option Bool := if 0 ≤ a1 ∧ a1 < 65536 then some true else none
set_option maxHeartbeats 8000000 in
set_option maxRecDepth 100000 in
theorem selvedgelaw21_ArmFair.calls (A0 : Option Addr) (c0 : Nat) (l0 : List S58) (a1 : Int) (A2 : Option Addr) (c2 : Nat) (l2 : List Int) (r : Bool) (w : World) (hr0 : Kd.C k58 w A0 l0.length l0) (hc0 : l0.length ≤ c0) (hr2 : Kd.C (Kd.int .u16) w A2 l2.length l2) (hc2 : l2.length ≤ c2) (h : selvedgelaw21_ArmFair.f l0 a1 l2 = some r) :
    Calls Try.prog 7 #[.slice A0 l0.length c0, .int .u16 a1, .slice A2 l2.length c2] w fun e w' => e = .returned (.bool r) ∧ Below w.heap.size w w' := by
  unfold selvedgelaw21_ArmFair.f at h
  have hg : 0 ≤ a1 ∧ a1 < 65536 := by
    by_cases hg : 0 ≤ a1 ∧ a1 < 65536
    · exact hg
    · rw [if_neg hg] at h; cases h
  rw [if_pos hg] at h
  obtain rfl := Option.some.inj h
  have hp := play_calls (a1.tmod 4 % 256) (a1 / 256 % 256) (by omega) (by omega) A0 c0 l0 w hr0
  have hi := inv_play l0 (okP (a1.tmod 4 % 256) (a1 / 256 % 256))
  have hs := srt_play l0 (okP (a1.tmod 4 % 256) (a1 / 256 % 256))
  generalize (playL (a1.tmod 4 % 256 % 4 + 1) (a1 / 256 % 256 % 64 + 1) l0).1 = s at *
  generalize (playL (a1.tmod 4 % 256 % 4 + 1) (a1 / 256 % 256 % 64 + 1) l0).2 = L at *
  have HC := Aside0.mk hr2
  have HI := Aside0.mk hi
  have HSR := Aside0.mk hs
  have eb : (wrap64 a1).tmod 1024 = a1 % 1024 := by rw [show wrap64 a1 = a1 by unfold wrap64; omega, Int.tmod_eq_emod_of_nonneg hg.1]
  obtain ⟨b, hb⟩ : ∃ b, a1 % 1024 = b := ⟨_, rfl⟩
  have hbr : 0 ≤ b ∧ b < 1024 := by omega
  rw [hb] at eb
  have HBR := Aside0.mk hbr
  have EB := Aside0.mk eb
  have herr := fun h => ask_err hi hbr h
  have HERR := Aside0.mk herr
  clear h hr0 hc0 hr2 hc2 hg hi hs eb hb hbr herr
  go_enter Try.func7, Try.ntmps7
  go_upto_region 6 with (first | (go_at_call 18; with_reducible refine hp.mono ?_; rintro e w1 ⟨⟨gc, gr, rfl, Pc, Pr, hT⟩, hb⟩; have HT := Aside0.mk hT; have HB := Aside0.mk hb; clear hT hb) | (go_at_call 14; with_reducible refine (live_calls _).mono ?_; rintro e w2 ⟨rfl, hb2⟩; have HT2 := Aside0.mk (Two.below HT.out hb2); have HB2 := Aside0.mk (below_step HB.out hb2); clear hb2))
  simp only [EB.out]
  have hask := Ask_calls gc _ s L b w w2 HB2.out HT2.out.ac HI.out.lt
  have hfn := fr_new (L := L) (b := b)
  have hia := inv_ask HI.out b
  have hsa := srt_ask HI.out HSR.out b
  by_cases he : (askA L b).1 = 0
  · rw [he] at hask
    have hfr := hfn he
    generalize (askA L b).2 = L1 at *
    have HFR := Aside0.mk hfr
    have HIA := Aside0.mk hia
    have HSA := Aside0.mk hsa
    clear he hfn hfr hia hsa HERR hp HT HT2
    go_upto_region 9 with (go_at_call 21; with_reducible refine hask.mono ?_; rintro e w3 ⟨rfl, h1, h2, -⟩; have H1 := Aside0.mk h1; have H2 := Aside0.mk h2; clear h1 h2 hask)
    have HST : Aside0 (∃ (N : Nat) (st : Sc × List S77) (P : Nat → Prop), AS w.heap.size P w3 gc st.1 st.2 ∧ Inv N st.1 st.2 ∧ Srt st.2 ∧ Fr b st.2 ∧ N + (min l2.length 80) ≤ 160) := ⟨80, (s, L1), _, H1.out, HIA.out, HSA.out, HFR.out, by omega⟩
    clear H1 HIA HSA HFR
    go_wp2
    go_loopg [14, 15, 16] (min l2.length 80) (fun kq v14 _ _ w' => ∃ i : Nat, i + kq = min l2.length 80 ∧ v14 = .int .i64 (i : Int) ∧ Aside0 (∃ (N : Nat) (st : Sc × List S77) (P : Nat → Prop), AS w.heap.size P w' gc st.1 st.2 ∧ Inv N st.1 st.2 ∧ Srt st.2 ∧ Fr b st.2 ∧ N + kq ≤ 160) ∧ Aside0 (Below w.heap.size w w'))
    case atStart => exact ⟨0, by omega, rfl, HST, H2⟩
    case round =>
      obtain ⟨i, hiq, rfl, hS, hb⟩ := hrel
      clear HST H2
      obtain ⟨N, st, P, has, hin, hsr, hfr, hN⟩ := hS.out
      have hag := fr_age hin hfr
      have HAS := Aside0.mk has
      have HIN := Aside0.mk hin
      have HSR1 := Aside0.mk hsr
      have HFR := Aside0.mk hfr
      clear has hin hsr hfr hS
      cases gk with
      | zero =>
        have d3 : decide (0 ≤ ageA st.2 b) = true := by simpa using hag.1
        have hac := Age_calls b HAS.out HIN.out.lt
        clear hag
        generalize ageA st.2 b = ag at *
        by_cases h80 : i < l2.length
        · have d1 : decide ((i : Int) < (l2.length : Int)) = true := by simp; omega
          have d2 : decide ((i : Int) < 80) = false := by simp; omega
          go_wp2_with (go_at_call 22; with_reducible refine hac.mono ?_; rintro e w6 ⟨rfl, hb6⟩; have HB6 := Aside0.mk hb6; clear hb6)
          go_ret
          exact ⟨rfl, below_step hb.out HB6.out⟩
        · have d1 : decide ((i : Int) < (l2.length : Int)) = false := by simp; omega
          have d1b : decide (i < l2.length) = false := by simp; omega
          go_wp2_with (go_at_call 22; with_reducible refine hac.mono ?_; rintro e w6 ⟨rfl, hb6⟩; have HB6 := Aside0.mk hb6; clear hb6)
          go_ret
          exact ⟨rfl, below_step hb.out HB6.out⟩
      | succ k1 =>
        have hlt : i < l2.length := by omega
        have hi80 : i < 80 := by omega
        have d1 : decide ((i : Int) < (l2.length : Int)) = true := by simp; omega
        have d2 : decide ((i : Int) < 80) = true := by simp; omega
        have p1 : (0 ≤ (i : Int)) = True := eq_true (by omega)
        have p2 : ((i : Int) < (l2.length : Int)) = True := eq_true (by omega)
        obtain ⟨ad, ea, x0⟩ := at_u16 (Kd.C_below HC.out hb.out) i hlt
        cases ea
        have ewi : Aside0 (wrap64 ((i : Int) + 1) = ((i + 1 : Nat) : Int)) := ⟨by unfold wrap64; omega⟩
        generalize l2[i] = y at *
        go_upto_region 12 with (fail)
        clear hag
        obtain ⟨c, hc⟩ : ∃ c, (wrap64 y).tmod 1024 = c := ⟨_, rfl⟩
        have HCC := Aside0.mk hc
        have hask := Ask_calls gc P st.1 st.2 c w wr hb.out HAS.out HIN.out.lt
        have hfa := fr_ask HFR.out c
        have hia := inv_ask HIN.out c
        have hsa := srt_ask HIN.out HSR1.out c
        clear hc HAS HIN HSR1 HFR
        generalize (askA st.2 c).1 = r1 at *
        generalize (askA st.2 c).2 = L2 at *
        have HFA := Aside0.mk hfa
        have HIA := Aside0.mk hia
        have HSA := Aside0.mk hsa
        clear hfa hia hsa
        go_upto_region 13 with (simp only [HCC.out]; go_at_call 21; with_reducible refine hask.mono ?_; rintro e w4 ⟨rfl, h1, h2, -⟩; have H1 := Aside0.mk h1; have H2 := Aside0.mk h2; clear h1 h2 hask)
        have h0 := fr_pos HFA.out
        have hnx := Next_A (k := N) gc _ st.1 L2 w w4 H2.out H1.out.bound HIA.out (by omega) (fun k hk => hk.2)
        have eo : outN st.1 L2 = ((pickA st.1 L2).1.f0, true) := by unfold outN; rw [if_neg (by omega)]
        have es : stN st.1 L2 = nextA (st.1, L2) := by unfold stN; rw [if_neg (by omega)]
        have hin := inv_stN HIA.out
        have hfn := fr_next HIA.out HSA.out HFA.out
        have hsn := srt_drop HSA.out (pickA st.1 L2).1.f0
        rw [eo, es] at hnx
        rw [es] at hin
        have e9 : (nextA (st.1, L2)).2 = dropA L2 (pickA st.1 L2).1.f0 := rfl
        rw [← e9] at hfn hsn
        generalize (pickA st.1 L2).1.f0 = x at *
        generalize (nextA (st.1, L2)).1 = s9 at *
        generalize (nextA (st.1, L2)).2 = L9 at *
        have HIN9 := Aside0.mk hin
        have HSN9 := Aside0.mk hsn
        have HFN9 := Aside0.mk hfn
        clear eo es e9 hin hfn hsn HIA HSA HFA x0
        go_upto_region 14 with (go_at_call 20; with_reducible refine hnx.mono ?_; rintro e w5 ⟨rfl, h1, h2, -⟩; have H3 := Aside0.mk h1; have H4 := Aside0.mk h2; clear h1 h2 hnx)
        by_cases hxb : x = b
        · have d5 : (x == b) = true := by simpa using hxb
          clear hxb
          go_wp2
          go_ret
          exact ⟨rfl, H4.out⟩
        · have d5 : (x == b) = false := by simpa using hxb
          have hfr9 : Fr b L9 := HFN9.out.resolve_left hxb
          have hag9 := fr_age HIN9.out hfr9
          have hac := Age_calls b H3.out HIN9.out.lt
          have d6 : decide (36 < ageA L9 b) = false := by simp; omega
          have HFR9 := Aside0.mk hfr9
          generalize ageA L9 b = ag at *
          clear hxb hfr9 hag9
          go_wp2_with (go_at_call 22; with_reducible refine hac.mono ?_; rintro e w6 ⟨rfl, hb6⟩; have HB6 := Aside0.mk hb6; clear hb6 hac)
          go_roundg k1
          case rel => exact ⟨i + 1, by omega, by first | rfl | rw [ewi.out], ⟨N + 1, (s9, L9), _, H3.out.below HB6.out, HIN9.out, HSN9.out, HFR9.out, by omega⟩, ⟨below_then H4.out H4.out.size HB6.out⟩⟩
          all_goals omega
  · obtain ⟨eL, hcase⟩ := HERR.out he
    rw [eL] at hask
    have d1 : ((askA L b).1 != 0) = true := by simpa using he
    rcases hcase with ⟨e6, h6⟩ | ⟨e11, h24⟩
    · rw [e6] at hask
      have d6 : decide (0 ≤ ageA L b) = true := by simpa using h6
      have HLT := Aside0.mk HI.out.lt
      clear he eL hfn hia hsa HERR hp HT HT2 d1 e6 h6
      go_upto_region 8 with (go_at_call 21; with_reducible refine hask.mono ?_; rintro e w3 ⟨rfl, h1, h2, -⟩; have H1 := Aside0.mk h1; have H2 := Aside0.mk h2; clear h1 h2 hask)
      have hac := Age_calls b H1.out HLT.out
      generalize ageA L b = ag at *
      go_wp2_with (go_at_call 22; with_reducible refine hac.mono ?_; rintro e w6 ⟨rfl, hb6⟩; have HB6 := Aside0.mk hb6; clear hb6 hac)
      go_ret
      exact ⟨rfl, below_then H2.out H2.out.size HB6.out⟩
    · rw [e11] at hask
      have HLT := Aside0.mk HI.out.lt
      have d24 : ((L.length : Int) == 24) = true := by rw [h24]; rfl
      have hml : (L.map (·.f0)).length = L.length := List.length_map ..
      have HML := Aside0.mk hml
      clear he eL hfn hia hsa HERR hp HT HT2 d1 e11 hml
      go_upto_region 8 with (go_at_call 21; with_reducible refine hask.mono ?_; rintro e w3 ⟨rfl, h1, h2, -⟩; have H1 := Aside0.mk h1; have H2 := Aside0.mk h2; clear h1 h2 hask)
      have hwt := Waiting_calls H1.out HLT.out
      go_wp2_with (go_at_call 19; with_reducible refine hwt.mono ?_; rintro e w6 ⟨⟨v6, rfl, ho6⟩, hb6⟩; obtain ⟨A6, c6, e6⟩ := Kd.R_slice ho6; rw [HML.out] at e6; subst e6; have HB6 := Aside0.mk hb6; clear ho6 hb6 hwt)
      go_ret
      exact ⟨rfl, below_then H2.out H2.out.size HB6.out⟩
end Go.Proofs.Ytfbjeiloefocgaa.PU
