import Derived.Test.YtfbjeiloefocgaaAP
/-! The walk of the law ArmScan. -/
namespace Go.Proofs.Ytfbjeiloefocgaa.PW
open Go.RowKit Go.Proofs.Ytfbjeiloefocgaa.Fl Go.Proofs.Ytfbjeiloefocgaa.PL Go.Proofs.Ytfbjeiloefocgaa.CC Go.Proofs.Ytfbjeiloefocgaa.PG Go.Proofs.YtfbjeiloefocgaaW.PrintWords Go.Proofs.YtfbjeiloefocgaaW.PrintLast Go.Proofs.YtfbjeiloefocgaaW.PrintMore
attribute [local go_sem] Oper.semAt_some

def selvedgelaw21_ArmScan.f (a0 a1 : Int) (l2 : List Int) : Option Bool := if 0 ≤ a0 ∧ a0 < 256 ∧ 0 ≤ a1 ∧ a1 < 256 ∧ l2.all (fun y => decide (0 ≤ y ∧ y < 65536)) = true then some true else none
set_option maxHeartbeats 8000000 in
set_option maxRecDepth 100000 in
theorem selvedgelaw21_ArmScan.calls (a0 : Int) (a1 : Int) (A2 : Option Addr) (c2 : Nat) (l2 : List Int) (r : Bool) (w : World) (hr2 : Kd.C (Kd.int .u16) w A2 l2.length l2) (hc2 : l2.length ≤ c2) (h : selvedgelaw21_ArmScan.f a0 a1 l2 = some r) :
    Calls Try.prog 5 #[.int .u8 a0, .int .u8 a1, .slice A2 l2.length c2] w fun e w' => e = .returned (.bool r) ∧ Below w.heap.size w w' := by
  unfold selvedgelaw21_ArmScan.f at h
  have hg : 0 ≤ a0 ∧ a0 < 256 ∧ 0 ≤ a1 ∧ a1 < 256 ∧ l2.all (fun y => decide (0 ≤ y ∧ y < 65536)) = true := by
    by_cases hg : 0 ≤ a0 ∧ a0 < 256 ∧ 0 ≤ a1 ∧ a1 < 256 ∧ l2.all (fun y => decide (0 ≤ y ∧ y < 65536)) = true
    · exact hg
    · rw [if_neg hg] at h; cases h
  rw [if_pos hg] at h
  obtain rfl := Option.some.inj h
  obtain ⟨g0, g1, g2, g3, g4⟩ := hg
  have HY : Aside0 (∀ y ∈ l2, 0 ≤ y ∧ y < 65536) := ⟨fun y hy => of_decide_eq_true (List.all_eq_true.1 g4 y hy)⟩
  have e1 : wrap64 ((wrap64 a0).tmod 64 + 1) = a0 % 64 + 1 := by rw [show wrap64 a0 = a0 by unfold wrap64; omega, Int.tmod_eq_emod_of_nonneg g0]; unfold wrap64; omega
  have e2 : wrap64 a1 = a1 := by unfold wrap64; omega
  have hok : okAll 3 (a0 % 64 + 1) a1 := ⟨by decide, by decide, by omega, by omega, by omega, by omega⟩
  generalize a0 % 64 + 1 = per1 at *
  have E1 := Aside0.mk e1
  have E2 := Aside0.mk e2
  have HOK := Aside0.mk hok
  have HC := Aside0.mk hr2
  clear h hr2 hc2 g0 g1 g2 g3 g4 e1 e2 hok
  go_enter Try.func5, Try.ntmps5
  go_upto_region 3 with (fail)
  go_loopg [7, 8, 9, 10, 11] (min l2.length 11) (fun kq vo vi _ _ _ w' => ∃ (i : Nat) (D : List Int), i + kq = min l2.length 11 ∧ vi = .int .i64 (i : Int) ∧ Aside0 (D = dd 400 (l2.take i) []) ∧ Aside0 (Kd.R (Kd.int .i64) 3 w' w.heap.size (fun _ => True) vo D) ∧ Aside0 (Below w.heap.size w w'))
  case atStart => exact ⟨0, [], by omega, rfl, ⟨rfl⟩, ⟨Kd.R_nil _ _ _ _ _⟩, ⟨Below.refl _ _⟩⟩
  case round =>
    obtain ⟨i, D, hi, rfl, hD, hR, hb⟩ := hrel
    obtain ⟨Ao, co, eo⟩ := Kd.R_slice hR.out
    subst eo
    have hDl : D.length ≤ i := by
      have := dd_len 400 (l2.take i) []
      rw [← hD.out, List.length_take] at this
      simp at this
      omega
    cases gk with
    | succ k1 =>
      have hlt : i < l2.length := by omega
      have hiL : i < 11 := by omega
      have d1 : decide ((i : Int) < (l2.length : Int)) = true := by simp; omega
      have d2 : decide ((i : Int) < 11) = true := by simp; omega
      have p1 : (0 ≤ (i : Int)) = True := eq_true (by omega)
      have p2 : ((i : Int) < (l2.length : Int)) = True := eq_true (by omega)
      obtain ⟨ad, ea, x0⟩ := at_u16 (Kd.C_below HC.out hb.out) i hlt
      cases ea
      have hy := HY.out l2[i] (List.getElem_mem hlt)
      have hsn := dd_snoc 400 (l2.take i) l2[i] []
      rw [← List.take_succ_eq_append_getElem hlt, ← hD.out] at hsn
      have ec : (wrap64 l2[i]).tmod 400 = l2[i] % 400 := by rw [show wrap64 l2[i] = l2[i] by unfold wrap64; omega, Int.tmod_eq_emod_of_nonneg hy.1]
      obtain ⟨c, hc⟩ : ∃ c, l2[i] % 400 = c := ⟨_, rfl⟩
      rw [hc] at hsn ec
      have EC := Aside0.mk ec
      have HSN := Aside0.mk hsn
      have ewi : Aside0 (wrap64 ((i : Int) + 1) = ((i + 1 : Nat) : Int)) := ⟨by unfold wrap64; omega⟩
      generalize l2[i] = y at *
      clear hy hc hsn ec
      go_upto_region 6 with (fail)
      simp only [EC.out]
      clear x0
      go_wp2
      go_loopg [10, 11] D.length (fun kq2 vs vk w' => ∃ q : Nat, q + kq2 = D.length ∧ vs = .bool ((D.take q).contains c) ∧ vk = .int .i64 (q : Int) ∧ Aside0 (Kd.R (Kd.int .i64) 3 w' w.heap.size (fun _ => True) (.slice Ao D.length co) D) ∧ Aside0 (Below w.heap.size w w'))
      case atStart => exact ⟨0, by omega, rfl, rfl, hR, hb⟩
      case round =>
        obtain ⟨q, hq, rfl, rfl, hR2, hb2⟩ := hrel
        clear hR hb
        cases gk with
        | succ k2 =>
          have hql : q < D.length := by omega
          have f1 : decide ((q : Int) < (D.length : Int)) = true := by simp; omega
          have f1b : decide (q < D.length) = true := by simp; omega
          have r1 : 0 ≤ (q : Int) := by omega
          have r2 : (q : Int) < (D.length : Int) := by omega
          obtain ⟨ad4, ea4, y0⟩ := Kd.at_int (Kd.R_reads' hR2.out).2.2 (q : Int) r1 r2
          cases ea4
          have hz : rd D (q : Int) = D[q] := by simp [rd, List.getD_eq_getElem?_getD, hql]
          rw [hz, Int.toNat_natCast] at y0
          have hct : (D.take (q + 1)).contains c = ((D.take q).contains c || D[q] == c) := by
            rw [List.take_succ_eq_append_getElem hql, contains_snoc]
          have ewq : Aside0 (wrap64 ((q : Int) + 1) = ((q + 1 : Nat) : Int)) := ⟨by unfold wrap64; omega⟩
          generalize D[q] = z at *
          replace r1 := eq_true r1
          replace r2 := eq_true r2
          cases hs : (D.take q).contains c with
          | true =>
            have HCT : Aside0 ((D.take (q + 1)).contains c = true) := ⟨by rw [hct, hs]; rfl⟩
            clear hct hz y0
            go_wp2
            go_roundg k2
            case rel => exact ⟨q + 1, by omega, by rw [HCT.out], by first | rfl | rw [ewq.out], hR2, hb2⟩
            all_goals omega
          | false =>
            have HCT : Aside0 ((D.take (q + 1)).contains c = (z == c)) := ⟨by rw [hct, hs]; rfl⟩
            clear hct hz
            go_wp2
            go_roundg k2
            case rel => exact ⟨q + 1, by omega, by rw [HCT.out], by first | rfl | rw [ewq.out], hR2, hb2⟩
            all_goals omega
        | zero =>
          obtain rfl : q = D.length := by omega
          have f1 : decide ((D.length : Int) < (D.length : Int)) = false := by simp
          rw [List.take_length]
          cases hs : D.contains c with
          | true =>
            have HDN : Aside0 (D = dd 400 (l2.take (i + 1)) []) := ⟨by rw [HSN.out, if_pos hs]⟩
            go_wp2
            go_roundg k1
            case rel => exact ⟨i + 1, D, by omega, by first | rfl | rw [ewi.out], HDN, hR2, hb2⟩
            all_goals omega
          | false =>
            have HDN : Aside0 (D ++ [c] = dd 400 (l2.take (i + 1)) []) := ⟨by rw [HSN.out, if_neg (by rw [hs]; decide)]⟩
            go_wp2_with (first | ((with_reducible refine gate_builtin (b := .append) (xs := #[.tmp 51, .tmp 53]) rfl ?_); at_builtin; refine Kd.R_append (Kd.int .i64) (w0 := w) w.heap.size rfl (.tmp 51) (.tmp 53) 23 3 (.int .i64 0) 8 rfl Try.underlying23 info3 rfl (by decide) (by omega) _ D c [.int .i64 c] (fun _ => True) (fun _ => False) rfl rfl ?aP (fun _ hk => hk.elim) ?aF ?aO hb2.out ?aS ?aL ?_; (case aP => exact rfl); (case aF => exact (fun _ _ => trivial)); (case aO => exact hR2.out); (case aS => exact hb2.out.size); (case aL => omega); intro v1 w9 ho hb9 hg hat; have HO1 := Aside0.mk ho; have HB1 := Aside0.mk hb9; clear ho hb9 hg hat))
            go_roundg k1
            case rel => exact ⟨i + 1, D ++ [c], by omega, by first | rfl | rw [ewi.out], HDN, HO1, HB1⟩
            all_goals omega
    | zero =>
      have hfin : D = dd 400 (l2.take 11) [] := by
        rw [hD.out]
        congr 1
        obtain rfl : i = min l2.length 11 := by omega
        by_cases h : l2.length ≤ 11
        · rw [Nat.min_eq_left h, List.take_length, List.take_of_length_le h]
        · rw [Nat.min_eq_right (by omega)]
      have HDD := Aside0.mk hfin
      have hDlim : D.length ≤ 11 := by omega
      clear hfin hD
      by_cases hLIM : i < l2.length
      · have d1 : decide ((i : Int) < (l2.length : Int)) = true := by simp; omega
        have d2 : decide ((i : Int) < 11) = false := by simp; omega
        go_upto_region 13 with (fail)
        have hnd : D.Nodup := by rw [HDD.out]; exact dd_nodup _ _ _ List.nodup_nil
        have hbl : ∀ b ∈ D, Bl b := fun b hb => by
          rw [HDD.out] at hb
          have := dd_range 400 (by decide) _ [] (by simp) b hb
          exact ⟨this.1, by omega⟩
        have hall := all_is (p := 3) HOK.out hnd hbl (by omega)
        have hinv := all_inv (p := 3) HOK.out hnd hbl (by omega)
        have hyg := new_yng D (by omega)
        have hml : (D.map (fun b => (⟨b, 0⟩ : S77))).length = D.length := List.length_map ..
        have htn := scan_turns (k := D.length) hinv rfl rfl hml hyg
        have hmv := run_mv D.length 0 (allS 3 per1 a1) _ hinv hml
        have hol : (CC.runN D.length (allS 3 per1 a1) (D.map (fun b => (⟨b, 0⟩ : S77)))).1.length = D.length := run_len _ _ _
        have hac := All_calls 3 per1 a1 Ao co D wr (Kd.R_reads' hR.out).2.2 (by omega)
        rw [hall] at hac
        have htn : turnsN a1 (CC.runN D.length (allS 3 per1 a1) (D.map (fun b => (⟨b, 0⟩ : S77)))).1 ≤ 1 := htn
        generalize CC.runN D.length (allS 3 per1 a1) (D.map (fun b => (⟨b, 0⟩ : S77))) = RR at *
        obtain ⟨O, hO⟩ : ∃ O, RR.1 = O := ⟨_, rfl⟩
        obtain ⟨mv, hmv2⟩ : ∃ mv, RR.2.mv = mv := ⟨_, rfl⟩
        rw [hO] at hac htn hol
        rw [hmv2] at hac hmv
        have htc : tcnt a1 O (O.length - 1) ≤ 1 := by rw [tcnt_all]; exact htn
        have HTC := Aside0.mk htc
        have hmvd : decide (0 ≤ mv) = true := by simpa using hmv
        have HOL := Aside0.mk hol
        have hOl : O.length < 1000 := by omega
        clear hO hmv2 hall hinv hyg hml htn hmv hnd hbl htc hR hol
        go_upto_region 15 with (first | (simp only [E1.out, E2.out]; go_at_call 11; with_reducible refine hac.mono ?_; rintro e w2 ⟨⟨v2, rfl, ho2⟩, hb2⟩; obtain ⟨A2o, c2o, e2⟩ := Kd.R_slice ho2; subst e2; have HC2 := Aside0.mk (Kd.R_reads' ho2).2.2; have HB2 := Aside0.mk (below_step hb.out hb2); clear ho2 hb2 hac))
        go_wp2
        go_loopg [15, 16, 17] (O.length - 1) (fun kq v15 v16 _ w' => ∃ j n : Nat, j + kq = O.length - 1 ∧ Aside0 (n = j + 1) ∧ v15 = .int .i64 ((tcnt a1 O j : Nat) : Int) ∧ v16 = .int .i64 (n : Int) ∧ Aside0 (Below w.heap.size w w') ∧ Aside0 (Below w2.heap.size w2 w'))
        case atStart => exact ⟨0, 1, by omega, ⟨rfl⟩, rfl, rfl, HB2, ⟨Below.refl _ _⟩⟩
        case round =>
          obtain ⟨j, n, hj, hn, rfl, rfl, hb3, hb4⟩ := hrel
          cases gk with
          | zero =>
            have f1 : decide ((n : Int) < (O.length : Int)) = false := by have := hn.out; simp; omega
            have f1b : decide (n < O.length) = false := by have := hn.out; simp; omega
            obtain rfl : j = O.length - 1 := by omega
            have htc2 : decide (((tcnt a1 O (O.length - 1) : Nat) : Int) ≤ 1) = true := by have := HTC.out; simp; omega
            have htc3 : decide (tcnt a1 O (O.length - 1) ≤ 1) = true := by have := HTC.out; simp; omega
            have e9 : ((O.length : Int) == (D.length : Int)) = true := by rw [beq_iff_eq]; have := HOL.out; omega
            generalize tcnt a1 O (O.length - 1) = tt at *
            go_wp2_with (go_at_call 14; with_reducible refine (live_calls _).mono ?_; rintro e w6 ⟨rfl, hb6⟩; have HB6 := Aside0.mk hb6; clear hb6)
            go_ret
            exact ⟨rfl, below_step hb3.out HB6.out⟩
          | succ k3 =>
            have hnl : n < O.length := by have := hn.out; omega
            have hjl : j < O.length := by have := hn.out; omega
            have f1 : decide ((n : Int) < (O.length : Int)) = true := by simp; omega
            have f1b : decide (n < O.length) = true := by simp; omega
            have r1 : (0 ≤ (n : Int)) = True := eq_true (by omega)
            have r2 : ((n : Int) < (O.length : Int)) = True := eq_true (by omega)
            have r3 : (0 ≤ (j : Int)) = True := eq_true (by omega)
            have r4 : ((j : Int) < (O.length : Int)) = True := eq_true (by omega)
            have ew1 : wrap64 ((n : Int) - 1) = (j : Int) := by have := hn.out; unfold wrap64; omega
            have ewn : Aside0 (wrap64 ((n : Int) + 1) = ((n + 1 : Nat) : Int)) := ⟨by unfold wrap64; omega⟩
            have hcell : ∀ (q : Nat) (W : World), q < O.length → Below w2.heap.size w2 W → ∃ ad, A2o = some ad ∧ W.cell? (ad.add q) = some (.int .i64 (O.getD q 0)) := fun q W hq hb => by
              obtain ⟨ad, ea, x0⟩ := Kd.at_int (Kd.C_below HC2.out hb) (q : Int) (by omega) (by omega)
              rw [show rd O (q : Int) = O.getD q 0 from rfl, Int.toNat_natCast] at x0
              exact ⟨ad, ea, x0⟩
            obtain ⟨ad, ea, xn⟩ := hcell n wr hnl hb4.out
            subst ea
            obtain ⟨ad', ea, xj⟩ := hcell j wr hjl hb4.out
            cases ea
            obtain ⟨ad', ea, x00⟩ := hcell 0 wr (by omega) hb4.out
            cases ea
            replace x00 : wr.cell? ad = some (.int .i64 (O.getD 0 0)) := x00
            have e2 := E2.out
            have e2b : IntKind.i64.wrap a1 = a1 := by rw [i64_w]; exact e2
            have ew1b : IntKind.i64.wrap ((n : Int) - 1) = (j : Int) := by rw [i64_w]; exact ew1
            have hst : tcnt a1 O (j + 1) = tcnt a1 O j + (if j = 0 then (if ¬ O.getD 0 0 < O.getD 1 0 ∧ a1 ≤ O.getD 0 0 then 1 else 0) else (if decide (O.getD j 0 < O.getD (j + 1) 0) = decide (O.getD (j - 1) 0 < O.getD j 0) then 0 else 1)) := rfl
            have htl := tcnt_le a1 O j
            obtain ⟨tt, htt⟩ : ∃ tt, tcnt a1 O j = tt := ⟨_, rfl⟩
            rw [htt] at hst htl ⊢
            have ewt : Aside0 (wrap64 ((tt : Int) + 1) = ((tt + 1 : Nat) : Int)) := ⟨by unfold wrap64; omega⟩
            clear htt
            by_cases hj0 : j = 0
            · have hnn : n = 1 := by have := hn.out; omega
              rw [if_pos hj0, show O.getD 1 0 = O.getD n 0 by rw [hnn], show O.getD 0 0 = O.getD j 0 by rw [hj0]] at hst
              rw [show O.getD 0 0 = O.getD j 0 by rw [hj0]] at x00
              have n1 : ((n : Int) == 1) = true := by rw [beq_iff_eq]; omega
              have n2 : decide (1 < (n : Int)) = false := by simp; omega
              have n3 : decide (1 < n) = false := by simp; omega
              clear hcell hj0 hnn
              generalize O.getD n 0 = vn at *
              generalize O.getD j 0 = vj at *
              by_cases hup : vj < vn
              · have g1 : decide (vj < vn) = true := decide_eq_true hup
                have HST : Aside0 (tcnt a1 O (j + 1) = tt) := ⟨by rw [hst, if_neg (fun h => h.1 hup)]; rfl⟩
                clear hst hup htl
                go_wp2
                go_quiet (fail)
                go_wp2
                go_quiet (fail)
                go_wp2
                go_roundg k3
                case rel => exact ⟨j + 1, n + 1, by omega, ⟨by rw [hn.out]⟩, by rw [HST.out], by first | rfl | rw [ewn.out], ⟨pw_below_drewN hb3.out _⟩, ⟨pw_below_drewN hb4.out _⟩⟩
                all_goals omega
              · have g1 : decide (vj < vn) = false := decide_eq_false hup
                by_cases hf : a1 ≤ vj
                · have g2 : decide (a1 ≤ vj) = true := decide_eq_true hf
                  have HST : Aside0 (tcnt a1 O (j + 1) = tt + 1) := ⟨by rw [hst, if_pos ⟨hup, hf⟩]⟩
                  clear hst hup htl hf
                  go_wp2
                  go_quiet (fail)
                  go_wp2
                  go_quiet (fail)
                  go_wp2
                  go_roundg k3
                  case rel => exact ⟨j + 1, n + 1, by omega, ⟨by rw [hn.out]⟩, by rw [HST.out]; first | rfl | rw [ewt.out], by first | rfl | rw [ewn.out], ⟨pw_below_drewN hb3.out _⟩, ⟨pw_below_drewN hb4.out _⟩⟩
                  all_goals omega
                · have g2 : decide (a1 ≤ vj) = false := decide_eq_false hf
                  have HST : Aside0 (tcnt a1 O (j + 1) = tt) := ⟨by rw [hst, if_neg (fun h => hf h.2)]; rfl⟩
                  clear hst hup htl hf
                  go_wp2
                  go_quiet (fail)
                  go_wp2
                  go_quiet (fail)
                  go_wp2
                  go_roundg k3
                  case rel => exact ⟨j + 1, n + 1, by omega, ⟨by rw [hn.out]⟩, by rw [HST.out], by first | rfl | rw [ewn.out], ⟨pw_below_drewN hb3.out _⟩, ⟨pw_below_drewN hb4.out _⟩⟩
                  all_goals omega
            · obtain ⟨q, hq⟩ : ∃ q, j - 1 = q := ⟨_, rfl⟩
              have hql : q < O.length := by omega
              obtain ⟨ad', ea, xq⟩ := hcell q wr hql hb4.out
              cases ea
              rw [if_neg hj0, hq, show j + 1 = n from hn.out.symm] at hst
              have n1 : ((n : Int) == 1) = false := by rw [beq_eq_false_iff_ne]; have := hn.out; omega
              have n2 : decide (1 < (n : Int)) = true := by have := hn.out; simp; omega
              have n3 : decide (1 < n) = true := by have := hn.out; simp; omega
              have ew2 : wrap64 ((n : Int) - 2) = (q : Int) := by have := hn.out; unfold wrap64; omega
              have ew2b : IntKind.i64.wrap ((n : Int) - 2) = (q : Int) := by rw [i64_w]; exact ew2
              have r5 : (0 ≤ (q : Int)) = True := eq_true (by omega)
              have r6 : ((q : Int) < (O.length : Int)) = True := eq_true (by omega)
              clear hcell hj0 hq
              rw [show n = j + 1 from hn.out] at hst
              have hst2 : tcnt a1 O (j + 1) = tt + (if decide (O.getD j 0 < O.getD n 0) = decide (O.getD q 0 < O.getD j 0) then 0 else 1) := by rw [hst, hn.out]
              clear hst
              generalize O.getD n 0 = vn at *
              generalize O.getD j 0 = vj at *
              generalize O.getD q 0 = vq at *
              cases g1 : decide (vj < vn) with
              | true =>
                cases g2 : decide (vq < vj) with
                | true =>
                  have HST : Aside0 (tcnt a1 O (j + 1) = tt) := ⟨by rw [hst2, g1, g2]; rfl⟩
                  clear hst2 htl
                  go_wp2
                  go_quiet (fail)
                  go_wp2
                  go_quiet (fail)
                  go_wp2
                  go_roundg k3
                  case rel => exact ⟨j + 1, n + 1, by omega, ⟨by rw [hn.out]⟩, by rw [HST.out], by first | rfl | rw [ewn.out], ⟨pw_below_drewN hb3.out _⟩, ⟨pw_below_drewN hb4.out _⟩⟩
                  all_goals omega
                | false =>
                  have HST : Aside0 (tcnt a1 O (j + 1) = tt + 1) := ⟨by rw [hst2, g1, g2]; rfl⟩
                  clear hst2 htl
                  go_wp2
                  go_quiet (fail)
                  go_wp2
                  go_quiet (fail)
                  go_wp2
                  go_roundg k3
                  case rel => exact ⟨j + 1, n + 1, by omega, ⟨by rw [hn.out]⟩, by rw [HST.out]; first | rfl | rw [ewt.out], by first | rfl | rw [ewn.out], ⟨pw_below_drewN hb3.out _⟩, ⟨pw_below_drewN hb4.out _⟩⟩
                  all_goals omega
              | false =>
                cases g2 : decide (vq < vj) with
                | true =>
                  have HST : Aside0 (tcnt a1 O (j + 1) = tt + 1) := ⟨by rw [hst2, g1, g2]; rfl⟩
                  clear hst2 htl
                  go_wp2
                  go_quiet (fail)
                  go_wp2
                  go_quiet (fail)
                  go_wp2
                  go_roundg k3
                  case rel => exact ⟨j + 1, n + 1, by omega, ⟨by rw [hn.out]⟩, by rw [HST.out]; first | rfl | rw [ewt.out], by first | rfl | rw [ewn.out], ⟨pw_below_drewN hb3.out _⟩, ⟨pw_below_drewN hb4.out _⟩⟩
                  all_goals omega
                | false =>
                  have HST : Aside0 (tcnt a1 O (j + 1) = tt) := ⟨by rw [hst2, g1, g2]; rfl⟩
                  clear hst2 htl
                  go_wp2
                  go_quiet (fail)
                  go_wp2
                  go_quiet (fail)
                  go_wp2
                  go_roundg k3
                  case rel => exact ⟨j + 1, n + 1, by omega, ⟨by rw [hn.out]⟩, by rw [HST.out], by first | rfl | rw [ewn.out], ⟨pw_below_drewN hb3.out _⟩, ⟨pw_below_drewN hb4.out _⟩⟩
                  all_goals omega

      · have d1 : decide ((i : Int) < (l2.length : Int)) = false := by simp; omega
        have d1b : decide (i < l2.length) = false := by simp; omega
        go_upto_region 13 with (fail)
        have hnd : D.Nodup := by rw [HDD.out]; exact dd_nodup _ _ _ List.nodup_nil
        have hbl : ∀ b ∈ D, Bl b := fun b hb => by
          rw [HDD.out] at hb
          have := dd_range 400 (by decide) _ [] (by simp) b hb
          exact ⟨this.1, by omega⟩
        have hall := all_is (p := 3) HOK.out hnd hbl (by omega)
        have hinv := all_inv (p := 3) HOK.out hnd hbl (by omega)
        have hyg := new_yng D (by omega)
        have hml : (D.map (fun b => (⟨b, 0⟩ : S77))).length = D.length := List.length_map ..
        have htn := scan_turns (k := D.length) hinv rfl rfl hml hyg
        have hmv := run_mv D.length 0 (allS 3 per1 a1) _ hinv hml
        have hol : (CC.runN D.length (allS 3 per1 a1) (D.map (fun b => (⟨b, 0⟩ : S77)))).1.length = D.length := run_len _ _ _
        have hac := All_calls 3 per1 a1 Ao co D wr (Kd.R_reads' hR.out).2.2 (by omega)
        rw [hall] at hac
        have htn : turnsN a1 (CC.runN D.length (allS 3 per1 a1) (D.map (fun b => (⟨b, 0⟩ : S77)))).1 ≤ 1 := htn
        generalize CC.runN D.length (allS 3 per1 a1) (D.map (fun b => (⟨b, 0⟩ : S77))) = RR at *
        obtain ⟨O, hO⟩ : ∃ O, RR.1 = O := ⟨_, rfl⟩
        obtain ⟨mv, hmv2⟩ : ∃ mv, RR.2.mv = mv := ⟨_, rfl⟩
        rw [hO] at hac htn hol
        rw [hmv2] at hac hmv
        have htc : tcnt a1 O (O.length - 1) ≤ 1 := by rw [tcnt_all]; exact htn
        have HTC := Aside0.mk htc
        have hmvd : decide (0 ≤ mv) = true := by simpa using hmv
        have HOL := Aside0.mk hol
        have hOl : O.length < 1000 := by omega
        clear hO hmv2 hall hinv hyg hml htn hmv hnd hbl htc hR hol
        go_upto_region 15 with (first | (simp only [E1.out, E2.out]; go_at_call 11; with_reducible refine hac.mono ?_; rintro e w2 ⟨⟨v2, rfl, ho2⟩, hb2⟩; obtain ⟨A2o, c2o, e2⟩ := Kd.R_slice ho2; subst e2; have HC2 := Aside0.mk (Kd.R_reads' ho2).2.2; have HB2 := Aside0.mk (below_step hb.out hb2); clear ho2 hb2 hac))
        go_wp2
        go_loopg [15, 16, 17] (O.length - 1) (fun kq v15 v16 _ w' => ∃ j n : Nat, j + kq = O.length - 1 ∧ Aside0 (n = j + 1) ∧ v15 = .int .i64 ((tcnt a1 O j : Nat) : Int) ∧ v16 = .int .i64 (n : Int) ∧ Aside0 (Below w.heap.size w w') ∧ Aside0 (Below w2.heap.size w2 w'))
        case atStart => exact ⟨0, 1, by omega, ⟨rfl⟩, rfl, rfl, HB2, ⟨Below.refl _ _⟩⟩
        case round =>
          obtain ⟨j, n, hj, hn, rfl, rfl, hb3, hb4⟩ := hrel
          cases gk with
          | zero =>
            have f1 : decide ((n : Int) < (O.length : Int)) = false := by have := hn.out; simp; omega
            have f1b : decide (n < O.length) = false := by have := hn.out; simp; omega
            obtain rfl : j = O.length - 1 := by omega
            have htc2 : decide (((tcnt a1 O (O.length - 1) : Nat) : Int) ≤ 1) = true := by have := HTC.out; simp; omega
            have htc3 : decide (tcnt a1 O (O.length - 1) ≤ 1) = true := by have := HTC.out; simp; omega
            have e9 : ((O.length : Int) == (D.length : Int)) = true := by rw [beq_iff_eq]; have := HOL.out; omega
            generalize tcnt a1 O (O.length - 1) = tt at *
            go_wp2_with (go_at_call 14; with_reducible refine (live_calls _).mono ?_; rintro e w6 ⟨rfl, hb6⟩; have HB6 := Aside0.mk hb6; clear hb6)
            go_ret
            exact ⟨rfl, below_step hb3.out HB6.out⟩
          | succ k3 =>
            have hnl : n < O.length := by have := hn.out; omega
            have hjl : j < O.length := by have := hn.out; omega
            have f1 : decide ((n : Int) < (O.length : Int)) = true := by simp; omega
            have f1b : decide (n < O.length) = true := by simp; omega
            have r1 : (0 ≤ (n : Int)) = True := eq_true (by omega)
            have r2 : ((n : Int) < (O.length : Int)) = True := eq_true (by omega)
            have r3 : (0 ≤ (j : Int)) = True := eq_true (by omega)
            have r4 : ((j : Int) < (O.length : Int)) = True := eq_true (by omega)
            have ew1 : wrap64 ((n : Int) - 1) = (j : Int) := by have := hn.out; unfold wrap64; omega
            have ewn : Aside0 (wrap64 ((n : Int) + 1) = ((n + 1 : Nat) : Int)) := ⟨by unfold wrap64; omega⟩
            have hcell : ∀ (q : Nat) (W : World), q < O.length → Below w2.heap.size w2 W → ∃ ad, A2o = some ad ∧ W.cell? (ad.add q) = some (.int .i64 (O.getD q 0)) := fun q W hq hb => by
              obtain ⟨ad, ea, x0⟩ := Kd.at_int (Kd.C_below HC2.out hb) (q : Int) (by omega) (by omega)
              rw [show rd O (q : Int) = O.getD q 0 from rfl, Int.toNat_natCast] at x0
              exact ⟨ad, ea, x0⟩
            obtain ⟨ad, ea, xn⟩ := hcell n wr hnl hb4.out
            subst ea
            obtain ⟨ad', ea, xj⟩ := hcell j wr hjl hb4.out
            cases ea
            obtain ⟨ad', ea, x00⟩ := hcell 0 wr (by omega) hb4.out
            cases ea
            replace x00 : wr.cell? ad = some (.int .i64 (O.getD 0 0)) := x00
            have e2 := E2.out
            have e2b : IntKind.i64.wrap a1 = a1 := by rw [i64_w]; exact e2
            have ew1b : IntKind.i64.wrap ((n : Int) - 1) = (j : Int) := by rw [i64_w]; exact ew1
            have hst : tcnt a1 O (j + 1) = tcnt a1 O j + (if j = 0 then (if ¬ O.getD 0 0 < O.getD 1 0 ∧ a1 ≤ O.getD 0 0 then 1 else 0) else (if decide (O.getD j 0 < O.getD (j + 1) 0) = decide (O.getD (j - 1) 0 < O.getD j 0) then 0 else 1)) := rfl
            have htl := tcnt_le a1 O j
            obtain ⟨tt, htt⟩ : ∃ tt, tcnt a1 O j = tt := ⟨_, rfl⟩
            rw [htt] at hst htl ⊢
            have ewt : Aside0 (wrap64 ((tt : Int) + 1) = ((tt + 1 : Nat) : Int)) := ⟨by unfold wrap64; omega⟩
            clear htt
            by_cases hj0 : j = 0
            · have hnn : n = 1 := by have := hn.out; omega
              rw [if_pos hj0, show O.getD 1 0 = O.getD n 0 by rw [hnn], show O.getD 0 0 = O.getD j 0 by rw [hj0]] at hst
              rw [show O.getD 0 0 = O.getD j 0 by rw [hj0]] at x00
              have n1 : ((n : Int) == 1) = true := by rw [beq_iff_eq]; omega
              have n2 : decide (1 < (n : Int)) = false := by simp; omega
              have n3 : decide (1 < n) = false := by simp; omega
              clear hcell hj0 hnn
              generalize O.getD n 0 = vn at *
              generalize O.getD j 0 = vj at *
              by_cases hup : vj < vn
              · have g1 : decide (vj < vn) = true := decide_eq_true hup
                have HST : Aside0 (tcnt a1 O (j + 1) = tt) := ⟨by rw [hst, if_neg (fun h => h.1 hup)]; rfl⟩
                clear hst hup htl
                go_wp2
                go_quiet (fail)
                go_wp2
                go_quiet (fail)
                go_wp2
                go_roundg k3
                case rel => exact ⟨j + 1, n + 1, by omega, ⟨by rw [hn.out]⟩, by rw [HST.out], by first | rfl | rw [ewn.out], ⟨pw_below_drewN hb3.out _⟩, ⟨pw_below_drewN hb4.out _⟩⟩
                all_goals omega
              · have g1 : decide (vj < vn) = false := decide_eq_false hup
                by_cases hf : a1 ≤ vj
                · have g2 : decide (a1 ≤ vj) = true := decide_eq_true hf
                  have HST : Aside0 (tcnt a1 O (j + 1) = tt + 1) := ⟨by rw [hst, if_pos ⟨hup, hf⟩]⟩
                  clear hst hup htl hf
                  go_wp2
                  go_quiet (fail)
                  go_wp2
                  go_quiet (fail)
                  go_wp2
                  go_roundg k3
                  case rel => exact ⟨j + 1, n + 1, by omega, ⟨by rw [hn.out]⟩, by rw [HST.out]; first | rfl | rw [ewt.out], by first | rfl | rw [ewn.out], ⟨pw_below_drewN hb3.out _⟩, ⟨pw_below_drewN hb4.out _⟩⟩
                  all_goals omega
                · have g2 : decide (a1 ≤ vj) = false := decide_eq_false hf
                  have HST : Aside0 (tcnt a1 O (j + 1) = tt) := ⟨by rw [hst, if_neg (fun h => hf h.2)]; rfl⟩
                  clear hst hup htl hf
                  go_wp2
                  go_quiet (fail)
                  go_wp2
                  go_quiet (fail)
                  go_wp2
                  go_roundg k3
                  case rel => exact ⟨j + 1, n + 1, by omega, ⟨by rw [hn.out]⟩, by rw [HST.out], by first | rfl | rw [ewn.out], ⟨pw_below_drewN hb3.out _⟩, ⟨pw_below_drewN hb4.out _⟩⟩
                  all_goals omega
            · obtain ⟨q, hq⟩ : ∃ q, j - 1 = q := ⟨_, rfl⟩
              have hql : q < O.length := by omega
              obtain ⟨ad', ea, xq⟩ := hcell q wr hql hb4.out
              cases ea
              rw [if_neg hj0, hq, show j + 1 = n from hn.out.symm] at hst
              have n1 : ((n : Int) == 1) = false := by rw [beq_eq_false_iff_ne]; have := hn.out; omega
              have n2 : decide (1 < (n : Int)) = true := by have := hn.out; simp; omega
              have n3 : decide (1 < n) = true := by have := hn.out; simp; omega
              have ew2 : wrap64 ((n : Int) - 2) = (q : Int) := by have := hn.out; unfold wrap64; omega
              have ew2b : IntKind.i64.wrap ((n : Int) - 2) = (q : Int) := by rw [i64_w]; exact ew2
              have r5 : (0 ≤ (q : Int)) = True := eq_true (by omega)
              have r6 : ((q : Int) < (O.length : Int)) = True := eq_true (by omega)
              clear hcell hj0 hq
              rw [show n = j + 1 from hn.out] at hst
              have hst2 : tcnt a1 O (j + 1) = tt + (if decide (O.getD j 0 < O.getD n 0) = decide (O.getD q 0 < O.getD j 0) then 0 else 1) := by rw [hst, hn.out]
              clear hst
              generalize O.getD n 0 = vn at *
              generalize O.getD j 0 = vj at *
              generalize O.getD q 0 = vq at *
              cases g1 : decide (vj < vn) with
              | true =>
                cases g2 : decide (vq < vj) with
                | true =>
                  have HST : Aside0 (tcnt a1 O (j + 1) = tt) := ⟨by rw [hst2, g1, g2]; rfl⟩
                  clear hst2 htl
                  go_wp2
                  go_quiet (fail)
                  go_wp2
                  go_quiet (fail)
                  go_wp2
                  go_roundg k3
                  case rel => exact ⟨j + 1, n + 1, by omega, ⟨by rw [hn.out]⟩, by rw [HST.out], by first | rfl | rw [ewn.out], ⟨pw_below_drewN hb3.out _⟩, ⟨pw_below_drewN hb4.out _⟩⟩
                  all_goals omega
                | false =>
                  have HST : Aside0 (tcnt a1 O (j + 1) = tt + 1) := ⟨by rw [hst2, g1, g2]; rfl⟩
                  clear hst2 htl
                  go_wp2
                  go_quiet (fail)
                  go_wp2
                  go_quiet (fail)
                  go_wp2
                  go_roundg k3
                  case rel => exact ⟨j + 1, n + 1, by omega, ⟨by rw [hn.out]⟩, by rw [HST.out]; first | rfl | rw [ewt.out], by first | rfl | rw [ewn.out], ⟨pw_below_drewN hb3.out _⟩, ⟨pw_below_drewN hb4.out _⟩⟩
                  all_goals omega
              | false =>
                cases g2 : decide (vq < vj) with
                | true =>
                  have HST : Aside0 (tcnt a1 O (j + 1) = tt + 1) := ⟨by rw [hst2, g1, g2]; rfl⟩
                  clear hst2 htl
                  go_wp2
                  go_quiet (fail)
                  go_wp2
                  go_quiet (fail)
                  go_wp2
                  go_roundg k3
                  case rel => exact ⟨j + 1, n + 1, by omega, ⟨by rw [hn.out]⟩, by rw [HST.out]; first | rfl | rw [ewt.out], by first | rfl | rw [ewn.out], ⟨pw_below_drewN hb3.out _⟩, ⟨pw_below_drewN hb4.out _⟩⟩
                  all_goals omega
                | false =>
                  have HST : Aside0 (tcnt a1 O (j + 1) = tt) := ⟨by rw [hst2, g1, g2]; rfl⟩
                  clear hst2 htl
                  go_wp2
                  go_quiet (fail)
                  go_wp2
                  go_quiet (fail)
                  go_wp2
                  go_roundg k3
                  case rel => exact ⟨j + 1, n + 1, by omega, ⟨by rw [hn.out]⟩, by rw [HST.out], by first | rfl | rw [ewn.out], ⟨pw_below_drewN hb3.out _⟩, ⟨pw_below_drewN hb4.out _⟩⟩
                  all_goals omega

end Go.Proofs.Ytfbjeiloefocgaa.PW
