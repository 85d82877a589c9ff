import Derived.Test.YtfbjeiloefocgaaAQ
/-! The walk of the law ArmFirst. -/
namespace Go.Proofs.Ytfbjeiloefocgaa.PV
open Go.RowKit Go.Proofs.Ytfbjeiloefocgaa.Fl Go.Proofs.Ytfbjeiloefocgaa.PL Go.Proofs.Ytfbjeiloefocgaa.CC Go.Proofs.Ytfbjeiloefocgaa.PG Go.Proofs.YtfbjeiloefocgaaW.PrintWords Go.Proofs.YtfbjeiloefocgaaW.PrintLast Go.Proofs.YtfbjeiloefocgaaW.PrintMore
attribute [local go_sem] Oper.semAt_some

def selvedgelaw21_ArmFirst.f (a0 a1 : Int) (l2 : List Int) : Option Bool := if 0 ≤ a0 ∧ a0 < 256 ∧ 0 ≤ a1 ∧ a1 < 256 ∧ l2.all (fun y => decide (0 ≤ y ∧ y < 65536)) = true then some true else none
set_option maxHeartbeats 8000000 in
set_option maxRecDepth 100000 in
theorem selvedgelaw21_ArmFirst.calls (a0 : Int) (a1 : Int) (A2 : Option Addr) (c2 : Nat) (l2 : List Int) (r : Bool) (w : World) (hr2 : Kd.C (Kd.int .u16) w A2 l2.length l2) (hc2 : l2.length ≤ c2) (h : selvedgelaw21_ArmFirst.f a0 a1 l2 = some r) :
    Calls Try.prog 4 #[.int .u8 a0, .int .u8 a1, .slice A2 l2.length c2] w fun e w' => e = .returned (.bool r) ∧ Below w.heap.size w w' := by
  unfold selvedgelaw21_ArmFirst.f at h
  have hg : 0 ≤ a0 ∧ a0 < 256 ∧ 0 ≤ a1 ∧ a1 < 256 ∧ l2.all (fun y => decide (0 ≤ y ∧ y < 65536)) = true := by
    by_cases hg : 0 ≤ a0 ∧ a0 < 256 ∧ 0 ≤ a1 ∧ a1 < 256 ∧ l2.all (fun y => decide (0 ≤ y ∧ y < 65536)) = true
    · exact hg
    · rw [if_neg hg] at h; cases h
  rw [if_pos hg] at h
  obtain rfl := Option.some.inj h
  obtain ⟨g0, g1, g2, g3, g4⟩ := hg
  have HY : Aside0 (∀ y ∈ l2, 0 ≤ y ∧ y < 65536) := ⟨fun y hy => of_decide_eq_true (List.all_eq_true.1 g4 y hy)⟩
  have e1 : wrap64 ((wrap64 a0).tmod 64 + 1) = a0 % 64 + 1 := by rw [show wrap64 a0 = a0 by unfold wrap64; omega, Int.tmod_eq_emod_of_nonneg g0]; unfold wrap64; omega
  have e2 : wrap64 a1 = a1 := by unfold wrap64; omega
  have hok : ∀ p : Int, 1 ≤ p → p ≤ 4 → okAll p (a0 % 64 + 1) a1 := fun p h1 h2 => ⟨h1, h2, by omega, by omega, by omega, by omega⟩
  have ha : Bl a1 ∧ Tr (a0 % 64 + 1) := ⟨⟨by omega, by omega⟩, by omega, by omega⟩
  generalize a0 % 64 + 1 = per1 at *
  have E1 := Aside0.mk e1
  have E2 := Aside0.mk e2
  have HOK := Aside0.mk hok
  have HA := Aside0.mk ha
  have HC := Aside0.mk hr2
  clear h hr2 hc2 g0 g1 g2 g3 g4 e1 e2 hok ha
  go_enter Try.func4, Try.ntmps4
  go_upto_region 4 with (fail)
  go_loopg [8, 9, 10, 11, 12] (min l2.length 10) (fun kq vo vi _ _ _ w' => ∃ (i : Nat) (D : List Int), i + kq = min l2.length 10 ∧ vi = .int .i64 (i : Int) ∧ Aside0 (D = dd 1024 (l2.take i) []) ∧ Aside0 (Kd.R (Kd.int .i64) 3 w' w.heap.size (fun _ => True) vo D) ∧ Aside0 (Below w.heap.size w w'))
  case atStart => exact ⟨0, [], by omega, rfl, ⟨rfl⟩, ⟨Kd.R_nil _ _ _ _ _⟩, ⟨Below.refl _ _⟩⟩
  case round =>
    obtain ⟨i, D, hi, rfl, hD, hR, hb⟩ := hrel
    obtain ⟨Ao, co, eo⟩ := Kd.R_slice hR.out
    subst eo
    have hDl : D.length ≤ i := by
      have := dd_len 1024 (l2.take i) []
      rw [← hD.out, List.length_take] at this
      simp at this
      omega
    cases gk with
    | succ k1 =>
      have hlt : i < l2.length := by omega
      have hiL : i < 10 := by omega
      have d1 : decide ((i : Int) < (l2.length : Int)) = true := by simp; omega
      have d2 : decide ((i : Int) < 10) = true := by simp; omega
      have p1 : (0 ≤ (i : Int)) = True := eq_true (by omega)
      have p2 : ((i : Int) < (l2.length : Int)) = True := eq_true (by omega)
      obtain ⟨ad, ea, x0⟩ := at_u16 (Kd.C_below HC.out hb.out) i hlt
      cases ea
      have hy := HY.out l2[i] (List.getElem_mem hlt)
      have hsn := dd_snoc 1024 (l2.take i) l2[i] []
      rw [← List.take_succ_eq_append_getElem hlt, ← hD.out] at hsn
      have ec : (wrap64 l2[i]).tmod 1024 = l2[i] % 1024 := by rw [show wrap64 l2[i] = l2[i] by unfold wrap64; omega, Int.tmod_eq_emod_of_nonneg hy.1]
      obtain ⟨c, hc⟩ : ∃ c, l2[i] % 1024 = c := ⟨_, rfl⟩
      rw [hc] at hsn ec
      have EC := Aside0.mk ec
      have HSN := Aside0.mk hsn
      have ewi : Aside0 (wrap64 ((i : Int) + 1) = ((i + 1 : Nat) : Int)) := ⟨by unfold wrap64; omega⟩
      generalize l2[i] = y at *
      clear hy hc hsn ec
      go_upto_region 7 with (fail)
      simp only [EC.out]
      clear x0
      go_wp2
      go_loopg [11, 12] D.length (fun kq2 vs vk w' => ∃ q : Nat, q + kq2 = D.length ∧ vs = .bool ((D.take q).contains c) ∧ vk = .int .i64 (q : Int) ∧ Aside0 (Kd.R (Kd.int .i64) 3 w' w.heap.size (fun _ => True) (.slice Ao D.length co) D) ∧ Aside0 (Below w.heap.size w w'))
      case atStart => exact ⟨0, by omega, rfl, rfl, hR, hb⟩
      case round =>
        obtain ⟨q, hq, rfl, rfl, hR2, hb2⟩ := hrel
        clear hR hb
        cases gk with
        | succ k2 =>
          have hql : q < D.length := by omega
          have f1 : decide ((q : Int) < (D.length : Int)) = true := by simp; omega
          have f1b : decide (q < D.length) = true := by simp; omega
          have r1 : 0 ≤ (q : Int) := by omega
          have r2 : (q : Int) < (D.length : Int) := by omega
          obtain ⟨ad4, ea4, y0⟩ := Kd.at_int (Kd.R_reads' hR2.out).2.2 (q : Int) r1 r2
          cases ea4
          have hz : rd D (q : Int) = D[q] := by simp [rd, List.getD_eq_getElem?_getD, hql]
          rw [hz, Int.toNat_natCast] at y0
          have hct : (D.take (q + 1)).contains c = ((D.take q).contains c || D[q] == c) := by
            rw [List.take_succ_eq_append_getElem hql, contains_snoc]
          have ewq : Aside0 (wrap64 ((q : Int) + 1) = ((q + 1 : Nat) : Int)) := ⟨by unfold wrap64; omega⟩
          generalize D[q] = z at *
          replace r1 := eq_true r1
          replace r2 := eq_true r2
          cases hs : (D.take q).contains c with
          | true =>
            have HCT : Aside0 ((D.take (q + 1)).contains c = true) := ⟨by rw [hct, hs]; rfl⟩
            clear hct hz y0
            go_wp2
            go_roundg k2
            case rel => exact ⟨q + 1, by omega, by rw [HCT.out], by first | rfl | rw [ewq.out], hR2, hb2⟩
            all_goals omega
          | false =>
            have HCT : Aside0 ((D.take (q + 1)).contains c = (z == c)) := ⟨by rw [hct, hs]; rfl⟩
            clear hct hz
            go_wp2
            go_roundg k2
            case rel => exact ⟨q + 1, by omega, by rw [HCT.out], by first | rfl | rw [ewq.out], hR2, hb2⟩
            all_goals omega
        | zero =>
          obtain rfl : q = D.length := by omega
          have f1 : decide ((D.length : Int) < (D.length : Int)) = false := by simp
          rw [List.take_length]
          cases hs : D.contains c with
          | true =>
            have HDN : Aside0 (D = dd 1024 (l2.take (i + 1)) []) := ⟨by rw [HSN.out, if_pos hs]⟩
            go_wp2
            go_roundg k1
            case rel => exact ⟨i + 1, D, by omega, by first | rfl | rw [ewi.out], HDN, hR2, hb2⟩
            all_goals omega
          | false =>
            have HDN : Aside0 (D ++ [c] = dd 1024 (l2.take (i + 1)) []) := ⟨by rw [HSN.out, if_neg (by rw [hs]; decide)]⟩
            go_wp2_with (first | ((with_reducible refine gate_builtin (b := .append) (xs := #[.tmp 68, .tmp 70]) rfl ?_); at_builtin; refine Kd.R_append (Kd.int .i64) (w0 := w) w.heap.size rfl (.tmp 68) (.tmp 70) 23 3 (.int .i64 0) 8 rfl Try.underlying23 info3 rfl (by decide) (by omega) _ D c [.int .i64 c] (fun _ => True) (fun _ => False) rfl rfl ?aP (fun _ hk => hk.elim) ?aF ?aO hb2.out ?aS ?aL ?_; (case aP => exact rfl); (case aF => exact (fun _ _ => trivial)); (case aO => exact hR2.out); (case aS => exact hb2.out.size); (case aL => omega); intro v1 w9 ho hb9 hg hat; have HO1 := Aside0.mk ho; have HB1 := Aside0.mk hb9; clear ho hb9 hg hat))
            go_roundg k1
            case rel => exact ⟨i + 1, D ++ [c], by omega, by first | rfl | rw [ewi.out], HDN, HO1, HB1⟩
            all_goals omega
    | zero =>
      have hfin : D = dd 1024 (l2.take 10) [] := by
        rw [hD.out]
        congr 1
        obtain rfl : i = min l2.length 10 := by omega
        by_cases h : l2.length ≤ 10
        · rw [Nat.min_eq_left h, List.take_length, List.take_of_length_le h]
        · rw [Nat.min_eq_right (by omega)]
      have HDD := Aside0.mk hfin
      have hDlim : D.length ≤ 10 := by omega
      clear hfin hD
      by_cases hLIM : i < l2.length
      · have d1 : decide ((i : Int) < (l2.length : Int)) = true := by simp; omega
        have d2 : decide ((i : Int) < 10) = false := by simp; omega
        go_upto_region 14 with (fail)
        have hnd : D.Nodup := by rw [HDD.out]; exact dd_nodup _ _ _ List.nodup_nil
        have hbl : ∀ b ∈ D, Bl b := fun b hb => by
          rw [HDD.out] at hb
          exact dd_range 1024 (by decide) _ [] (by simp) b hb
        have hrd := Kd.R_reads' hR.out
        obtain ⟨m1, h1⟩ := fifo_all (HOK.out 1 (by decide) (by decide)) hnd hbl (by omega)
        obtain ⟨X, m2, h2, hx, hxn⟩ := near_all (HOK.out 2 (by decide) (by decide)) hnd hbl (by omega)
        obtain ⟨O, m4, h4, ho4, hfc⟩ := cyc_all (HOK.out 4 (by decide) (by decide)) hnd hbl (by omega)
        have hfc2 := fcnt_le O (O.length - 1)
        have HH := Aside0.mk hrd
        have HX := Aside0.mk hx
        have HXN := Aside0.mk hxn
        have HO := Aside0.mk ho4
        have HFC := Aside0.mk hfc
        have HBL := Aside0.mk hbl
        have HDL := Aside0.mk hDlim
        have hsm : selvedgeref01_Same.f (D.length + 1) D D = some true := same_self D (by omega)
        clear hnd hbl hrd hx hxn ho4 hfc hfc2 hDlim hR HDD
        go_upto_region 15 with (first | (simp only [E1.out, E2.out]; go_at_call 11; with_reducible refine (All_at h1 Ao co _ HH.out.2.2 (by have := HDL.out; omega)).mono ?_; rintro e w1 ⟨⟨v1, rfl, ho⟩, hb9⟩; obtain ⟨A1, c1, e9⟩ := Kd.R_slice ho; subst e9; have HO1 := Aside0.mk (Kd.R_reads' ho); have HS1 := Aside0.mk hb9; have HB1 := Aside0.mk (below_step hb.out hb9); clear ho hb9))
        go_upto_region 16 with (first | (simp only [E1.out, E2.out]; go_at_call 11; with_reducible refine (All_at h2 Ao co _ (Kd.C_below HH.out.2.2 HS1.out) (by have := HDL.out; omega)).mono ?_; rintro e w2 ⟨⟨v2, rfl, ho⟩, hb9⟩; obtain ⟨A2, c2, e9⟩ := Kd.R_slice ho; subst e9; have HO2 := Aside0.mk (Kd.R_reads' ho); have HS2 := Aside0.mk hb9; have HB2 := Aside0.mk (below_step HB1.out hb9); clear ho hb9))
        go_upto_region 17 with (first | (simp only [E1.out, E2.out]; go_at_call 11; with_reducible refine (All_at h4 Ao co _ (Kd.C_below (Kd.C_below HH.out.2.2 HS1.out) HS2.out) (by have := HDL.out; omega)).mono ?_; rintro e w4 ⟨⟨v4, rfl, ho⟩, hb9⟩; obtain ⟨A4, c4, e9⟩ := Kd.R_slice ho; subst e9; have HO4 := Aside0.mk (Kd.R_reads' ho); have HS4 := Aside0.mk hb9; have HB4 := Aside0.mk (below_step HB2.out hb9); clear ho hb9))
        have hCd := Kd.C_below (Kd.C_below (Kd.C_below HH.out.2.2 HS1.out) HS2.out) HS4.out
        have hCf := Kd.C_below (Kd.C_below HO1.out.2.2 HS2.out) HS4.out
        have hCx := Kd.C_below HO2.out.2.2 HS4.out
        have HCD := Aside0.mk hCd
        have HCX := Aside0.mk hCx
        have HCO := Aside0.mk HO4.out.2.2
        have n1 : ((X.length : Int) != (D.length : Int)) = false := by rw [bne_eq_false_iff_eq]; have := HX.out; omega
        have n2 : ((O.length : Int) != (D.length : Int)) = false := by rw [bne_eq_false_iff_eq]; have := HO.out; omega
        have n3 : ((X.length : Int) = (D.length : Int)) = True := eq_true (by have := HX.out; omega)
        have n4 : ((O.length : Int) = (D.length : Int)) = True := eq_true (by have := HO.out; omega)
        go_upto_region 19 with (first | (go_at_call 15; with_reducible refine (selvedgeref01_Same.calls (D.length + 1) A1 c1 D Ao co D true _ hCf HO1.out.2.1 hCd HH.out.2.1 hsm).mono ?_; rintro e w5 ⟨rfl, hb9⟩; have HS5 := Aside0.mk hb9.below; have HB5 := Aside0.mk (below_step HB4.out hb9.below); clear hb9 hCd hCf hCx hsm))
        clear n1 n2 n3 n4
        go_upto_region 20 with (first | (simp only [E1.out, E2.out]; go_at_call 16; with_reducible refine (At_place a1 per1 HA.out.1 HA.out.2 _).mono ?_; rintro e w6 ⟨rfl, hb9⟩; have HS6 := Aside0.mk (below_step HS5.out hb9); have HB6 := Aside0.mk (below_step HB5.out hb9); clear hb9))
        go_wp2
        go_loopg [24, 25, 26, 27, 28] D.length (fun kq v24 _ _ _ _ w' => ∃ i : Nat, i + kq = D.length ∧ v24 = .int .i64 (i : Int) ∧ Aside0 (Below w.heap.size w w') ∧ Aside0 (Below w4.heap.size w4 w'))
        case atStart => exact ⟨0, by omega, rfl, HB6, HS6⟩
        case round =>
          obtain ⟨i, hi, rfl, hb3, hb4⟩ := hrel
          cases gk with
          | succ k1 =>
            have hil : i < D.length := by omega
            have f1 : decide ((i : Int) < (D.length : Int)) = true := by simp; omega
            have f1b : decide (i < D.length) = true := by simp; omega
            have r1 : (0 ≤ (i : Int)) = True := eq_true (by omega)
            have r2 : ((i : Int) < (D.length : Int)) = True := eq_true (by omega)
            have r3 : ((0 : Int) < (X.length : Int)) = True := eq_true (by have := HX.out; omega)
            have r3b : (0 < X.length) = True := eq_true (by have := HX.out; omega)
            have hxc : ∀ (V : World), Below w4.heap.size w4 V → ∃ ad, A2 = some ad ∧ V.cell? ad = some (.int .i64 (X.getD 0 0)) := fun V hb => by
              obtain ⟨ad, ea, x0⟩ := Kd.at_int (Kd.C_below HCX.out hb) 0 (by omega) (by have := HX.out; omega)
              exact ⟨ad, ea, x0⟩
            obtain ⟨ad, ea, y0⟩ := Kd.at_int (Kd.C_below HCD.out hb4.out) (i : Int) (by omega) (by omega)
            have hz : rd D (i : Int) = D[i] := by simp [rd, List.getD_eq_getElem?_getD, hil]
            rw [hz, Int.toNat_natCast] at y0
            subst ea
            obtain ⟨adx, ex, x0⟩ := hxc wr hb4.out
            subst ex
            clear x0
            have hmem := List.getElem_mem hil
            have hB := HBL.out _ hmem
            have hW := HXN.out _ hmem
            generalize D[i] = y at *
            generalize X.getD 0 0 = x at *
            obtain ⟨hBx, hW⟩ := hW
            have g1 : decide (wayI a1 y per1 < wayI a1 x per1) = false := decide_eq_false (by omega)
            have HBY := Aside0.mk hB
            have HBX := Aside0.mk hBx
            have ewi : Aside0 (wrap64 ((i : Int) + 1) = ((i + 1 : Nat) : Int)) := ⟨by unfold wrap64; have := HDL.out; omega⟩
            clear hz hmem hB hBx hW
            go_upto_region 24 with (first | (go_at_call 16; with_reducible refine (At_place y per1 HBY.out HA.out.2 _).mono ?_; rintro e w7 ⟨rfl, hb9⟩; have HS7 := Aside0.mk (below_step hb4.out hb9); have HB7 := Aside0.mk (below_step hb3.out hb9); clear hb9))
            obtain ⟨ady, ey, x1⟩ := hxc w7 HS7.out
            cases ey
            go_upto_region 25 with (first | (go_at_call 16; with_reducible refine (At_place x per1 HBX.out HA.out.2 _).mono ?_; rintro e w8 ⟨rfl, hb9⟩; have HS8 := Aside0.mk (below_step HS7.out hb9); have HB8 := Aside0.mk (below_step HB7.out hb9); clear hb9))
            go_wp2_with (go_at_call 17; first | (with_reducible refine (way_int a1 x per1 HA.out.1 HBX.out HA.out.2 _).mono ?_; rintro e w9 ⟨rfl, rfl⟩) | (with_reducible refine (way_int a1 y per1 HA.out.1 HBY.out HA.out.2 _).mono ?_; rintro e w9 ⟨rfl, rfl⟩))
            go_roundg k1
            case rel => exact ⟨i + 1, by omega, by first | rfl | rw [ewi.out], HB8, HS8⟩
            all_goals omega
          | zero =>
            obtain rfl : i = D.length := by omega
            have f1 : decide ((D.length : Int) < (D.length : Int)) = false := by simp
            go_upto_region 28 with (fail)
            go_wp2
            have hbq := hb4
            obtain ⟨w7, hw7⟩ : ∃ V, wr = V := ⟨_, rfl⟩
            go_loopg [29, 30] (O.length - 1) (fun kq v29 v30 w' => ∃ j n : Nat, j + kq = O.length - 1 ∧ Aside0 (n = j + 1) ∧ v29 = .int .i64 ((fcnt O j : Nat) : Int) ∧ v30 = .int .i64 (n : Int) ∧ Aside0 (Below w.heap.size w w') ∧ Aside0 (Below w4.heap.size w4 w'))
            case atStart => exact ⟨0, 1, by omega, ⟨rfl⟩, rfl, rfl, hb3, hbq⟩
            case round =>
              clear hb3 hb4 hbq hw7
              obtain ⟨j, n, hj, hn, rfl, rfl, hb3, hb4⟩ := hrel
              cases gk with
              | zero =>
                have f1 : decide ((n : Int) < (O.length : Int)) = false := by have := hn.out; simp; omega
                have f1b : decide (n < O.length) = false := by have := hn.out; simp; omega
                obtain rfl : j = O.length - 1 := by omega
                have htc2 : decide (((fcnt O (O.length - 1) : Nat) : Int) ≤ 1) = true := by have := HFC.out; simp; omega
                have htc3 : decide (fcnt O (O.length - 1) ≤ 1) = true := by have := HFC.out; simp; omega
                generalize fcnt O (O.length - 1) = tt at *
                go_wp2_with (go_at_call 14; with_reducible refine (live_calls _).mono ?_; rintro e w9 ⟨rfl, hb9⟩; have HB9 := Aside0.mk hb9; clear hb9)
                go_ret
                exact ⟨rfl, below_step hb3.out HB9.out⟩
              | succ k3 =>
                have hnl : n < O.length := by have := hn.out; omega
                have hjl : j < O.length := by have := hn.out; omega
                have hOl : O.length < 1000 := by have := HO.out; have := HDL.out; omega
                have f1 : decide ((n : Int) < (O.length : Int)) = true := by simp; omega
                have f1b : decide (n < O.length) = true := by simp; omega
                have r1 : (0 ≤ (n : Int)) = True := eq_true (by omega)
                have r2 : ((n : Int) < (O.length : Int)) = True := eq_true (by omega)
                have r3 : (0 ≤ (j : Int)) = True := eq_true (by omega)
                have r4 : ((j : Int) < (O.length : Int)) = True := eq_true (by omega)
                have ew1 : wrap64 ((n : Int) - 1) = (j : Int) := by have := hn.out; unfold wrap64; omega
                have ew1b : IntKind.i64.wrap ((n : Int) - 1) = (j : Int) := by rw [i64_w]; exact ew1
                have ewn : Aside0 (wrap64 ((n : Int) + 1) = ((n + 1 : Nat) : Int)) := ⟨by unfold wrap64; omega⟩
                have hcell : ∀ (q : Nat) (V : World), q < O.length → Below w4.heap.size w4 V → ∃ ad, A4 = some ad ∧ V.cell? (ad.add q) = some (.int .i64 (O.getD q 0)) := fun q V hq hb => by
                  obtain ⟨ad, ea, x0⟩ := Kd.at_int (Kd.C_below HCO.out hb) (q : Int) (by omega) (by omega)
                  rw [show rd O (q : Int) = O.getD q 0 from rfl, Int.toNat_natCast] at x0
                  exact ⟨ad, ea, x0⟩
                obtain ⟨ad, ea, xn⟩ := hcell n wr hnl hb4.out
                subst ea
                obtain ⟨ad', ea, xj⟩ := hcell j wr hjl hb4.out
                cases ea
                have hst : fcnt O (j + 1) = fcnt O j + (if O.getD n 0 < O.getD j 0 then 1 else 0) := by rw [hn.out]; rfl
                have htl := fcnt_le O j
                obtain ⟨tt, htt⟩ : ∃ tt, fcnt O j = tt := ⟨_, rfl⟩
                rw [htt] at hst htl ⊢
                have ewt : Aside0 (wrap64 ((tt : Int) + 1) = ((tt + 1 : Nat) : Int)) := ⟨by unfold wrap64; omega⟩
                clear htt hcell
                generalize O.getD n 0 = vn at *
                generalize O.getD j 0 = vj at *
                by_cases hup : vn < vj
                · have g1 : decide (vn < vj) = true := decide_eq_true hup
                  have HST : Aside0 (fcnt O (j + 1) = tt + 1) := ⟨by rw [hst, if_pos hup]⟩
                  clear hst hup htl
                  go_wp2
                  go_quiet (fail)
                  go_wp2
                  go_roundg k3
                  case rel => exact ⟨j + 1, n + 1, by omega, ⟨by rw [hn.out]⟩, by rw [HST.out]; first | rfl | rw [ewt.out], by first | rfl | rw [ewn.out], ⟨pw_below_drewN hb3.out _⟩, ⟨pw_below_drewN hb4.out _⟩⟩
                  all_goals omega
                · have g1 : decide (vn < vj) = false := decide_eq_false hup
                  have HST : Aside0 (fcnt O (j + 1) = tt) := ⟨by rw [hst, if_neg hup]; rfl⟩
                  clear hst hup htl
                  go_wp2
                  go_quiet (fail)
                  go_wp2
                  go_roundg k3
                  case rel => exact ⟨j + 1, n + 1, by omega, ⟨by rw [hn.out]⟩, by rw [HST.out], by first | rfl | rw [ewn.out], ⟨pw_below_drewN hb3.out _⟩, ⟨pw_below_drewN hb4.out _⟩⟩
                  all_goals omega

      · have d1 : decide ((i : Int) < (l2.length : Int)) = false := by simp; omega
        have d1b : decide (i < l2.length) = false := by simp; omega
        go_upto_region 14 with (fail)
        have hnd : D.Nodup := by rw [HDD.out]; exact dd_nodup _ _ _ List.nodup_nil
        have hbl : ∀ b ∈ D, Bl b := fun b hb => by
          rw [HDD.out] at hb
          exact dd_range 1024 (by decide) _ [] (by simp) b hb
        have hrd := Kd.R_reads' hR.out
        obtain ⟨m1, h1⟩ := fifo_all (HOK.out 1 (by decide) (by decide)) hnd hbl (by omega)
        obtain ⟨X, m2, h2, hx, hxn⟩ := near_all (HOK.out 2 (by decide) (by decide)) hnd hbl (by omega)
        obtain ⟨O, m4, h4, ho4, hfc⟩ := cyc_all (HOK.out 4 (by decide) (by decide)) hnd hbl (by omega)
        have hfc2 := fcnt_le O (O.length - 1)
        have HH := Aside0.mk hrd
        have HX := Aside0.mk hx
        have HXN := Aside0.mk hxn
        have HO := Aside0.mk ho4
        have HFC := Aside0.mk hfc
        have HBL := Aside0.mk hbl
        have HDL := Aside0.mk hDlim
        have hsm : selvedgeref01_Same.f (D.length + 1) D D = some true := same_self D (by omega)
        clear hnd hbl hrd hx hxn ho4 hfc hfc2 hDlim hR HDD
        go_upto_region 15 with (first | (simp only [E1.out, E2.out]; go_at_call 11; with_reducible refine (All_at h1 Ao co _ HH.out.2.2 (by have := HDL.out; omega)).mono ?_; rintro e w1 ⟨⟨v1, rfl, ho⟩, hb9⟩; obtain ⟨A1, c1, e9⟩ := Kd.R_slice ho; subst e9; have HO1 := Aside0.mk (Kd.R_reads' ho); have HS1 := Aside0.mk hb9; have HB1 := Aside0.mk (below_step hb.out hb9); clear ho hb9))
        go_upto_region 16 with (first | (simp only [E1.out, E2.out]; go_at_call 11; with_reducible refine (All_at h2 Ao co _ (Kd.C_below HH.out.2.2 HS1.out) (by have := HDL.out; omega)).mono ?_; rintro e w2 ⟨⟨v2, rfl, ho⟩, hb9⟩; obtain ⟨A2, c2, e9⟩ := Kd.R_slice ho; subst e9; have HO2 := Aside0.mk (Kd.R_reads' ho); have HS2 := Aside0.mk hb9; have HB2 := Aside0.mk (below_step HB1.out hb9); clear ho hb9))
        go_upto_region 17 with (first | (simp only [E1.out, E2.out]; go_at_call 11; with_reducible refine (All_at h4 Ao co _ (Kd.C_below (Kd.C_below HH.out.2.2 HS1.out) HS2.out) (by have := HDL.out; omega)).mono ?_; rintro e w4 ⟨⟨v4, rfl, ho⟩, hb9⟩; obtain ⟨A4, c4, e9⟩ := Kd.R_slice ho; subst e9; have HO4 := Aside0.mk (Kd.R_reads' ho); have HS4 := Aside0.mk hb9; have HB4 := Aside0.mk (below_step HB2.out hb9); clear ho hb9))
        have hCd := Kd.C_below (Kd.C_below (Kd.C_below HH.out.2.2 HS1.out) HS2.out) HS4.out
        have hCf := Kd.C_below (Kd.C_below HO1.out.2.2 HS2.out) HS4.out
        have hCx := Kd.C_below HO2.out.2.2 HS4.out
        have HCD := Aside0.mk hCd
        have HCX := Aside0.mk hCx
        have HCO := Aside0.mk HO4.out.2.2
        have n1 : ((X.length : Int) != (D.length : Int)) = false := by rw [bne_eq_false_iff_eq]; have := HX.out; omega
        have n2 : ((O.length : Int) != (D.length : Int)) = false := by rw [bne_eq_false_iff_eq]; have := HO.out; omega
        have n3 : ((X.length : Int) = (D.length : Int)) = True := eq_true (by have := HX.out; omega)
        have n4 : ((O.length : Int) = (D.length : Int)) = True := eq_true (by have := HO.out; omega)
        go_upto_region 19 with (first | (go_at_call 15; with_reducible refine (selvedgeref01_Same.calls (D.length + 1) A1 c1 D Ao co D true _ hCf HO1.out.2.1 hCd HH.out.2.1 hsm).mono ?_; rintro e w5 ⟨rfl, hb9⟩; have HS5 := Aside0.mk hb9.below; have HB5 := Aside0.mk (below_step HB4.out hb9.below); clear hb9 hCd hCf hCx hsm))
        clear n1 n2 n3 n4
        go_upto_region 20 with (first | (simp only [E1.out, E2.out]; go_at_call 16; with_reducible refine (At_place a1 per1 HA.out.1 HA.out.2 _).mono ?_; rintro e w6 ⟨rfl, hb9⟩; have HS6 := Aside0.mk (below_step HS5.out hb9); have HB6 := Aside0.mk (below_step HB5.out hb9); clear hb9))
        go_wp2
        go_loopg [24, 25, 26, 27, 28] D.length (fun kq v24 _ _ _ _ w' => ∃ i : Nat, i + kq = D.length ∧ v24 = .int .i64 (i : Int) ∧ Aside0 (Below w.heap.size w w') ∧ Aside0 (Below w4.heap.size w4 w'))
        case atStart => exact ⟨0, by omega, rfl, HB6, HS6⟩
        case round =>
          obtain ⟨i, hi, rfl, hb3, hb4⟩ := hrel
          cases gk with
          | succ k1 =>
            have hil : i < D.length := by omega
            have f1 : decide ((i : Int) < (D.length : Int)) = true := by simp; omega
            have f1b : decide (i < D.length) = true := by simp; omega
            have r1 : (0 ≤ (i : Int)) = True := eq_true (by omega)
            have r2 : ((i : Int) < (D.length : Int)) = True := eq_true (by omega)
            have r3 : ((0 : Int) < (X.length : Int)) = True := eq_true (by have := HX.out; omega)
            have r3b : (0 < X.length) = True := eq_true (by have := HX.out; omega)
            have hxc : ∀ (V : World), Below w4.heap.size w4 V → ∃ ad, A2 = some ad ∧ V.cell? ad = some (.int .i64 (X.getD 0 0)) := fun V hb => by
              obtain ⟨ad, ea, x0⟩ := Kd.at_int (Kd.C_below HCX.out hb) 0 (by omega) (by have := HX.out; omega)
              exact ⟨ad, ea, x0⟩
            obtain ⟨ad, ea, y0⟩ := Kd.at_int (Kd.C_below HCD.out hb4.out) (i : Int) (by omega) (by omega)
            have hz : rd D (i : Int) = D[i] := by simp [rd, List.getD_eq_getElem?_getD, hil]
            rw [hz, Int.toNat_natCast] at y0
            subst ea
            obtain ⟨adx, ex, x0⟩ := hxc wr hb4.out
            subst ex
            clear x0
            have hmem := List.getElem_mem hil
            have hB := HBL.out _ hmem
            have hW := HXN.out _ hmem
            generalize D[i] = y at *
            generalize X.getD 0 0 = x at *
            obtain ⟨hBx, hW⟩ := hW
            have g1 : decide (wayI a1 y per1 < wayI a1 x per1) = false := decide_eq_false (by omega)
            have HBY := Aside0.mk hB
            have HBX := Aside0.mk hBx
            have ewi : Aside0 (wrap64 ((i : Int) + 1) = ((i + 1 : Nat) : Int)) := ⟨by unfold wrap64; have := HDL.out; omega⟩
            clear hz hmem hB hBx hW
            go_upto_region 24 with (first | (go_at_call 16; with_reducible refine (At_place y per1 HBY.out HA.out.2 _).mono ?_; rintro e w7 ⟨rfl, hb9⟩; have HS7 := Aside0.mk (below_step hb4.out hb9); have HB7 := Aside0.mk (below_step hb3.out hb9); clear hb9))
            obtain ⟨ady, ey, x1⟩ := hxc w7 HS7.out
            cases ey
            go_upto_region 25 with (first | (go_at_call 16; with_reducible refine (At_place x per1 HBX.out HA.out.2 _).mono ?_; rintro e w8 ⟨rfl, hb9⟩; have HS8 := Aside0.mk (below_step HS7.out hb9); have HB8 := Aside0.mk (below_step HB7.out hb9); clear hb9))
            go_wp2_with (go_at_call 17; first | (with_reducible refine (way_int a1 x per1 HA.out.1 HBX.out HA.out.2 _).mono ?_; rintro e w9 ⟨rfl, rfl⟩) | (with_reducible refine (way_int a1 y per1 HA.out.1 HBY.out HA.out.2 _).mono ?_; rintro e w9 ⟨rfl, rfl⟩))
            go_roundg k1
            case rel => exact ⟨i + 1, by omega, by first | rfl | rw [ewi.out], HB8, HS8⟩
            all_goals omega
          | zero =>
            obtain rfl : i = D.length := by omega
            have f1 : decide ((D.length : Int) < (D.length : Int)) = false := by simp
            go_upto_region 28 with (fail)
            go_wp2
            have hbq := hb4
            obtain ⟨w7, hw7⟩ : ∃ V, wr = V := ⟨_, rfl⟩
            go_loopg [29, 30] (O.length - 1) (fun kq v29 v30 w' => ∃ j n : Nat, j + kq = O.length - 1 ∧ Aside0 (n = j + 1) ∧ v29 = .int .i64 ((fcnt O j : Nat) : Int) ∧ v30 = .int .i64 (n : Int) ∧ Aside0 (Below w.heap.size w w') ∧ Aside0 (Below w4.heap.size w4 w'))
            case atStart => exact ⟨0, 1, by omega, ⟨rfl⟩, rfl, rfl, hb3, hbq⟩
            case round =>
              clear hb3 hb4 hbq hw7
              obtain ⟨j, n, hj, hn, rfl, rfl, hb3, hb4⟩ := hrel
              cases gk with
              | zero =>
                have f1 : decide ((n : Int) < (O.length : Int)) = false := by have := hn.out; simp; omega
                have f1b : decide (n < O.length) = false := by have := hn.out; simp; omega
                obtain rfl : j = O.length - 1 := by omega
                have htc2 : decide (((fcnt O (O.length - 1) : Nat) : Int) ≤ 1) = true := by have := HFC.out; simp; omega
                have htc3 : decide (fcnt O (O.length - 1) ≤ 1) = true := by have := HFC.out; simp; omega
                generalize fcnt O (O.length - 1) = tt at *
                go_wp2_with (go_at_call 14; with_reducible refine (live_calls _).mono ?_; rintro e w9 ⟨rfl, hb9⟩; have HB9 := Aside0.mk hb9; clear hb9)
                go_ret
                exact ⟨rfl, below_step hb3.out HB9.out⟩
              | succ k3 =>
                have hnl : n < O.length := by have := hn.out; omega
                have hjl : j < O.length := by have := hn.out; omega
                have hOl : O.length < 1000 := by have := HO.out; have := HDL.out; omega
                have f1 : decide ((n : Int) < (O.length : Int)) = true := by simp; omega
                have f1b : decide (n < O.length) = true := by simp; omega
                have r1 : (0 ≤ (n : Int)) = True := eq_true (by omega)
                have r2 : ((n : Int) < (O.length : Int)) = True := eq_true (by omega)
                have r3 : (0 ≤ (j : Int)) = True := eq_true (by omega)
                have r4 : ((j : Int) < (O.length : Int)) = True := eq_true (by omega)
                have ew1 : wrap64 ((n : Int) - 1) = (j : Int) := by have := hn.out; unfold wrap64; omega
                have ew1b : IntKind.i64.wrap ((n : Int) - 1) = (j : Int) := by rw [i64_w]; exact ew1
                have ewn : Aside0 (wrap64 ((n : Int) + 1) = ((n + 1 : Nat) : Int)) := ⟨by unfold wrap64; omega⟩
                have hcell : ∀ (q : Nat) (V : World), q < O.length → Below w4.heap.size w4 V → ∃ ad, A4 = some ad ∧ V.cell? (ad.add q) = some (.int .i64 (O.getD q 0)) := fun q V hq hb => by
                  obtain ⟨ad, ea, x0⟩ := Kd.at_int (Kd.C_below HCO.out hb) (q : Int) (by omega) (by omega)
                  rw [show rd O (q : Int) = O.getD q 0 from rfl, Int.toNat_natCast] at x0
                  exact ⟨ad, ea, x0⟩
                obtain ⟨ad, ea, xn⟩ := hcell n wr hnl hb4.out
                subst ea
                obtain ⟨ad', ea, xj⟩ := hcell j wr hjl hb4.out
                cases ea
                have hst : fcnt O (j + 1) = fcnt O j + (if O.getD n 0 < O.getD j 0 then 1 else 0) := by rw [hn.out]; rfl
                have htl := fcnt_le O j
                obtain ⟨tt, htt⟩ : ∃ tt, fcnt O j = tt := ⟨_, rfl⟩
                rw [htt] at hst htl ⊢
                have ewt : Aside0 (wrap64 ((tt : Int) + 1) = ((tt + 1 : Nat) : Int)) := ⟨by unfold wrap64; omega⟩
                clear htt hcell
                generalize O.getD n 0 = vn at *
                generalize O.getD j 0 = vj at *
                by_cases hup : vn < vj
                · have g1 : decide (vn < vj) = true := decide_eq_true hup
                  have HST : Aside0 (fcnt O (j + 1) = tt + 1) := ⟨by rw [hst, if_pos hup]⟩
                  clear hst hup htl
                  go_wp2
                  go_quiet (fail)
                  go_wp2
                  go_roundg k3
                  case rel => exact ⟨j + 1, n + 1, by omega, ⟨by rw [hn.out]⟩, by rw [HST.out]; first | rfl | rw [ewt.out], by first | rfl | rw [ewn.out], ⟨pw_below_drewN hb3.out _⟩, ⟨pw_below_drewN hb4.out _⟩⟩
                  all_goals omega
                · have g1 : decide (vn < vj) = false := decide_eq_false hup
                  have HST : Aside0 (fcnt O (j + 1) = tt) := ⟨by rw [hst, if_neg hup]; rfl⟩
                  clear hst hup htl
                  go_wp2
                  go_quiet (fail)
                  go_wp2
                  go_roundg k3
                  case rel => exact ⟨j + 1, n + 1, by omega, ⟨by rw [hn.out]⟩, by rw [HST.out], by first | rfl | rw [ewn.out], ⟨pw_below_drewN hb3.out _⟩, ⟨pw_below_drewN hb4.out _⟩⟩
                  all_goals omega

end Go.Proofs.Ytfbjeiloefocgaa.PV
