import Derived.Test.YtfbjeiloefocgaaYD
/-! The walk of the law ArmOnce. -/
namespace Go.Proofs.Ytfbjeiloefocgaa.PT
open Go.RowKit Go.Proofs.Ytfbjeiloefocgaa.Fl Go.Proofs.Ytfbjeiloefocgaa.PL Go.Proofs.Ytfbjeiloefocgaa.CC Go.Proofs.Ytfbjeiloefocgaa.PG Go.Proofs.YtfbjeiloefocgaaW.PrintWords Go.Proofs.YtfbjeiloefocgaaW.PrintLast Go.Proofs.YtfbjeiloefocgaaW.PrintMore
attribute [local go_sem] Oper.semAt_some

theorem pick_at {s : Sc} {L : List S77} (h0 : 0 < L.length) : ∃ n, ∃ h : n < L.length, pickA s L = (L[n], (pickA s L).2) := by
  obtain ⟨n, hn, e⟩ := List.mem_iff_getElem.1 (pick_mem (s := s) h0)
  exact ⟨n, hn, by rw [e]⟩
theorem count_one : ∀ (l : List Int) (y : Int), l.Nodup → y ∈ l → l.count y = 1
  | [], y, _, h => by cases h
  | x :: t, y, hn, h => by
    rw [List.nodup_cons] at hn
    rw [List.count_cons]
    by_cases e : x = y
    · subst e
      rw [List.count_eq_zero.2 hn.1]
      simp
    · rcases List.mem_cons.1 h with h | h
      · exact absurd h.symm e
      · rw [count_one t y hn.2 h]
        simp [e]
theorem perm_erase (l : List Int) (n : Nat) (h : n < l.length) : (l[n] :: l.eraseIdx n).Perm l := by
  rw [List.eraseIdx_eq_take_drop_succ]
  have h2 : l.take n ++ l[n] :: l.drop (n + 1) = l := by rw [← List.drop_eq_getElem_cons h, List.take_append_drop]
  have h3 := (List.perm_middle (a := l[n]) (l₁ := l.take n) (l₂ := l.drop (n + 1))).symm
  rw [h2] at h3
  exact h3
theorem run_perm : ∀ (k : Nat) (N : Nat) (s : Sc) (L : List S77), Inv N s L → L.length = k → (CC.runN k s L).1.Perm (L.map (·.f0))
  | 0, N, s, L, hi, hk => by
    have := List.length_eq_zero_iff.1 hk
    subst this
    exact List.Perm.refl _
  | k + 1, N, s, L, hi, hk => by
    have h0 : 0 < L.length := by omega
    obtain ⟨n, hn, e⟩ := pick_at (s := s) h0
    have ef : (pickA s L).1.f0 = L[n].f0 := by rw [e]
    have hd : dropA L (pickA s L).1.f0 = (L.eraseIdx n).map older := by rw [ef]; exact drop_nd hi.nd hn
    have hl := dropA_len hi h0
    have ih := run_perm k (N + 1) (goA s (pickA s L)) (dropA L (pickA s L).1.f0) (inv_next hi h0) (by omega)
    unfold CC.runN
    refine (List.Perm.cons _ ih).trans ?_
    rw [hd, older_blocks, ef]
    have e2 : (L.eraseIdx n).map (·.f0) = (L.map (·.f0)).eraseIdx n := by
      rw [List.eraseIdx_eq_take_drop_succ, List.eraseIdx_eq_take_drop_succ, List.map_append, List.map_take, List.map_drop]
    rw [e2]
    have := perm_erase (L.map (·.f0)) n (by rw [List.length_map]; exact hn)
    rw [List.getElem_map] at this
    exact this
/-- An arm, a row of numbers, and another one that stays. -/
def Trip (B n2 n3 : Nat) (w : World) (g : Nat) (s : Sc) (M : List S77) (v : Value) (xs : List Int) (vx : Value) (X : List Int) : Prop :=
  ∃ P Q, SepA B P Q w g s M v xs ∧ (∀ k, P k → k < n2 ∨ n3 ≤ k) ∧ (∀ k, Q k → n3 ≤ k) ∧ Kd.R (Kd.int .i64) 3 w B (fun k => n2 ≤ k ∧ k < n3) vx X ∧ n3 ≤ w.heap.size
theorem Trip.below {B n2 n3 : Nat} {w w' : World} {g : Nat} {s : Sc} {M : List S77} {v : Value} {xs : List Int} {vx : Value} {X : List Int} (h : Trip B n2 n3 w g s M v xs vx X) (hb : Below w.heap.size w w') : Trip B n2 n3 w' g s M v xs vx X := by
  obtain ⟨P, Q, h1, h2, h3, h4, h5⟩ := h
  exact ⟨P, Q, h1.below hb, h2, h3, Kd.R_below h4 hb, Nat.le_trans h5 hb.size⟩
theorem trip_app {B n2 n3 : Nat} {P Q : Nat → Prop} {w w' : World} {g : Nat} {s : Sc} {M : List S77} {v v' : Value} {xs xs' : List Int} {vx : Value} {X : List Int} (h1 : SepA B P Q w g s M v xs) (h2 : ∀ k, P k → k < n2 ∨ n3 ≤ k) (h3 : ∀ k, Q k → n3 ≤ k) (h4 : Kd.R (Kd.int .i64) 3 w B (fun k => n2 ≤ k ∧ k < n3) vx X) (h5 : n3 ≤ w.heap.size)
    (hr : Kd.R (Kd.int .i64) 3 w' B (fun k => Q k ∨ w.heap.size ≤ k) v' xs') (hg : w.grownBy w' v.ownBlock) : Trip B n2 n3 w' g s M v' xs' vx X := by
  have hk : Kept w w' Q := ⟨hg.size, fun k hk hS => hg.block k hk (fun e => hS (h1.row.1 k e.symm))⟩
  exact ⟨_, _, ⟨h1.arm.kept hk (fun k h6 h7 => h1.ap k h6 h7), hr, fun k h6 h7 => h7.elim (h1.ap k h6.1) (fun h8 => absurd h6.2 (Nat.not_lt.2 h8))⟩, fun k hk => h2 k hk.1, fun k hk => hk.elim (h3 k) (fun h => Nat.le_trans h5 h), Kd.R_kept h4 hk (fun k hk hq => absurd hk.2 (Nat.not_lt.2 (h3 k hq))), Nat.le_trans h5 hg.size⟩
theorem trip_next {N B n2 n3 : Nat} {w0 w : World} {g : Nat} {s : Sc} {M : List S77} {v : Value} {xs : List Int} {vx : Value} {X : List Int} (hB : Below w0.heap.size w0 w) (h : Trip w0.heap.size n2 n3 w g s M v xs vx X) (hi : Inv N s M) (hN : N < 900000) :
    Calls Try.prog 20 #[.pointer (some ⟨g, 0, none⟩)] w fun e w' => e = .returned (.tuple #[.int .i64 (outN s M).1, .bool (outN s M).2]) ∧ Trip w0.heap.size n2 n3 w' g (stN s M).1 (stN s M).2 v xs vx X ∧ Below w0.heap.size w0 w' := by
  obtain ⟨P, Q, h1, h2, h3, h4, h5⟩ := h
  refine (Next_A (k := N) g (fun k => P k ∧ k < w.heap.size) s M w0 w hB h1.arm.bound hi hN (fun k hk => hk.2)).mono ?_
  rintro e w' ⟨he, ha, hb, hk⟩
  have hk' : Kept w w' P := ⟨hk.1, fun k hk9 hS => hk.2 k hk9 (fun e => hS e.1)⟩
  have hr := Kd.R_keptB h1.row hk' (fun k hq hP => h1.ap k hP hq)
  refine ⟨he, ⟨_, _, ⟨ha, hr, fun k h6 h7 => h6.elim (fun h6 => h1.ap k h6.1 h7.1) (fun h6 => absurd h7.2.2 (Nat.not_lt.2 h6))⟩, fun k hk => hk.elim (fun h => h2 k h.1) (fun h => .inr (Nat.le_trans h5 h)), fun k hk => h3 k hk.1, Kd.R_kept h4 hk' (fun k hk9 hP => by have := h2 k hP; omega), Nat.le_trans h5 hk.1⟩, hb⟩
def selvedgelaw21_ArmOnce.f (a0 a1 : Int) (_l2 : List S58) : Option Bool := if 0 ≤ a0 ∧ a0 < 256 ∧ 0 ≤ a1 ∧ a1 < 256 then some true else none
set_option maxHeartbeats 8000000 in
set_option maxRecDepth 100000 in
theorem selvedgelaw21_ArmOnce.calls (a0 : Int) (a1 : Int) (A2 : Option Addr) (c2 : Nat) (l2 : List S58) (r : Bool) (w : World) (hr2 : Kd.C k58 w A2 l2.length l2) (hc2 : l2.length ≤ c2) (h : selvedgelaw21_ArmOnce.f a0 a1 l2 = some r) :
    Calls Try.prog 6 #[.int .u8 a0, .int .u8 a1, .slice A2 l2.length c2] w fun e w' => e = .returned (.bool r) ∧ Below w.heap.size w w' := by
  unfold selvedgelaw21_ArmOnce.f at h
  have hg : 0 ≤ a0 ∧ a0 < 256 ∧ 0 ≤ a1 ∧ a1 < 256 := by
    by_cases hg : 0 ≤ a0 ∧ a0 < 256 ∧ 0 ≤ a1 ∧ a1 < 256
    · exact hg
    · rw [if_neg hg] at h; cases h
  rw [if_pos hg] at h
  obtain rfl := Option.some.inj h
  have hp := play_calls a0 a1 ⟨hg.1, hg.2.1⟩ hg.2.2 A2 c2 l2 w hr2
  have hi := inv_play l2 (okP a0 a1)
  generalize (playL (a0 % 4 + 1) (a1 % 64 + 1) l2).1 = s at *
  generalize (playL (a0 % 4 + 1) (a1 % 64 + 1) l2).2 = L at *
  obtain ⟨X, hX⟩ : ∃ X, L.map (·.f0) = X := ⟨_, rfl⟩
  obtain ⟨O, hO⟩ : ∃ O, CC.runN L.length s L = O := ⟨_, rfl⟩
  have hperm := run_perm L.length 80 s L hi rfl
  have hol : O.1.length = L.length := by rw [← hO]; exact run_len _ _ _
  have hxl : X.length = L.length := by rw [← hX]; exact List.length_map ..
  have hnd := hi.nd
  have hll := hi.len
  rw [hO, hX] at hperm
  rw [hX] at hnd
  have hcnt : ∀ y ∈ X, O.1.count y = 1 := fun y hy => by
    rw [hperm.count_eq]
    exact count_one X y hnd hy
  have HCNT := Aside0.mk hcnt
  have hw := fun (W : World) (h : AS w.heap.size (fun _ => True) W 0 s L) => trivial
  have HI := Aside0.mk hi
  have HO := Aside0.mk hO
  have HX := Aside0.mk hX
  clear h hr2 hc2 hg hperm hnd hcnt hw hO hX
  go_enter Try.func6, Try.ntmps6
  go_upto_region 4 with (first | (go_at_call 18; with_reducible refine hp.mono ?_; rintro e w1 ⟨⟨gc, gr, rfl, Pc, Pr, hT⟩, hb⟩; have HT := Aside0.mk hT; have HB := Aside0.mk hb; clear hT hb) | (go_at_call 14; with_reducible refine (live_calls _).mono ?_; rintro e w2 ⟨rfl, hb2⟩; have HT2 := Aside0.mk (Two.below HT.out hb2); have HB2 := Aside0.mk (below_step HB.out hb2); clear hb2))
  have hwt := Waiting_calls HT2.out.ac HI.out.lt
  rw [HX.out] at hwt
  go_upto_region 5 with (go_at_call 19; with_reducible refine hwt.mono ?_; rintro e w3 ⟨⟨v3, rfl, ho3⟩, hb3⟩; obtain ⟨A3, c3, e3⟩ := Kd.R_slice ho3; subst e3; have HO3 := Aside0.mk ho3; have HB3 := Aside0.mk hb3; clear ho3 hb3 hwt)
  have htrip : Trip w.heap.size w2.heap.size w3.heap.size w3 gc s L (.slice none 0 0) [] (.slice A3 X.length c3) X :=
    ⟨_, fun _ => False, ⟨HT2.out.ac.bound.below HB3.out, Kd.R_nil _ _ _ _ _, fun k h1 h2 => h2⟩, fun k hk => .inl hk.2, fun k hk => hk.elim, Kd.R_mono (Kd.R_lower (Kd.R_bound HO3.out) HB2.out.size) (fun k hk => ⟨hk.2.1, hk.2.2.1⟩), Nat.le_refl _⟩
  have HTR := Aside0.mk htrip
  have HBW := Aside0.mk (below_step HB2.out HB3.out)
  generalize w2.heap.size = n2 at *
  generalize w3.heap.size = n3 at *
  clear htrip HO3 HT2 HT HB HB2 hp
  go_wp2
  go_loopg [11, 12, 13, 14] 26 (fun kq v11 v12 _ _ w' => ∃ (i : Nat) (done : List Int) (s' : Sc) (M : List S77), M.length < kq ∧ i + kq = 26 ∧ v12 = .int .i64 (i : Int) ∧ Aside0 (done ++ (CC.runN M.length s' M).1 = O.1) ∧ Aside0 (∃ N, N + kq ≤ 120 ∧ Inv N s' M) ∧ Aside0 (Trip w.heap.size n2 n3 w' gc s' M v11 done (.slice A3 X.length c3) X) ∧ Aside0 (Below w.heap.size w w'))
  case atStart => exact ⟨0, [], s, L, by omega, by omega, rfl, ⟨by rw [HO.out]; rfl⟩, ⟨80, by omega, HI.out⟩, HTR, HBW⟩
  case round =>
    obtain ⟨j, done, s', M, hM, hj, rfl, hP, hI, hS, hb⟩ := hrel
    obtain ⟨Av, cv, ev⟩ := Kd.R_slice hS.out.choose_spec.choose_spec.1.row
    subst ev
    clear HTR HBW
    cases gk with
    | zero => exact absurd hM (by omega)
    | succ k1 =>
      have d1 : decide ((j : Int) < 26) = true := by simp; omega
      obtain ⟨N, hN, hinv⟩ := hI.out
      have hnx := trip_next (N := N) (B := 0) hb.out hS.out hinv (by omega)
      by_cases h0 : M.length = 0
      · have hout : outN s' M = (0, false) := by unfold outN; rw [if_pos h0]
        have hst : stN s' M = (s', M) := by unfold stN; rw [if_pos h0]
        have hM0 := List.length_eq_zero_iff.1 h0
        rw [hout, hst] at hnx
        have hdone : done = O.1 := by
          have := hP.out
          rw [h0] at this
          simpa [CC.runN] using this
        subst hM0
        have HDN := Aside0.mk hdone
        clear hout hst hinv h0 hdone hM hS
        go_upto_region 12 with (go_at_call 20; with_reducible refine hnx.mono ?_; rintro e w4 ⟨rfl, h1, h2⟩; have H1 := Aside0.mk h1; have H2 := Aside0.mk h2; clear h1 h2 hnx)
        obtain ⟨P, Q, hs, -, -, h4, -⟩ := H1.out
        have HS := Aside0.mk hs
        have HX4 := Aside0.mk (Kd.R_reads' h4).2.2
        have HO4 := Aside0.mk (Kd.R_reads' hs.row).2.2
        rw [HDN.out] at HO4 ⊢
        clear hs h4 H1 hP hI
        obtain ⟨G, hG⟩ : ∃ G, O.1 = G := ⟨_, rfl⟩
        rw [hG] at HO4 HCNT hol ⊢
        clear HDN
        go_wp2
        go_loopg [15, 16, 17] X.length (fun kq v15 _ _ w' => ∃ i : Nat, i + kq = X.length ∧ v15 = .int .i64 (i : Int) ∧ Aside0 (Below w4.heap.size w4 w'))
        case atStart => exact ⟨0, by omega, rfl, ⟨Below.refl _ _⟩⟩
        case round =>
          obtain ⟨i, hiq, rfl, hb5⟩ := hrel
          cases gk with
          | succ k2 =>
            have hlt : i < X.length := by omega
            have e1 : decide ((i : Int) < (X.length : Int)) = true := by simp; omega
            have e1b : decide (i < X.length) = true := by simp; omega
            have p1 : 0 ≤ (i : Int) := by omega
            have p2 : (i : Int) < (X.length : Int) := by omega
            have hy : rd X (i : Int) = X[i] := by simp [rd, List.getD_eq_getElem?_getD, hlt]
            have hc1 := HCNT.out X[i] (List.getElem_mem hlt)
            have hyx : ∀ W, Below w4.heap.size w4 W → ∃ ad, A3 = some ad ∧ W.cell? (ad.add i) = some (.int .i64 X[i]) := fun W hb => by
              obtain ⟨ad, ea, x0⟩ := Kd.at_int (Kd.C_below HX4.out hb) (i : Int) p1 p2
              rw [hy, Int.toNat_natCast] at x0
              exact ⟨ad, ea, x0⟩
            have HYX := Aside0.mk hyx
            obtain ⟨ad3, ea3, -⟩ := hyx w4 (Below.refl _ _)
            subst ea3
            have ewi : Aside0 (wrap64 ((i : Int) + 1) = ((i + 1 : Nat) : Int)) := ⟨by unfold wrap64; omega⟩
            replace p1 := eq_true p1
            replace p2 := eq_true p2
            generalize X[i] = y at *
            have HC1 := Aside0.mk hc1
            clear hyx hy hc1
            go_wp2
            go_loopg [16, 17] G.length (fun kq2 v16 v17 w' => ∃ q : Nat, q + kq2 = G.length ∧ v16 = .int .i64 (((G.take q).count y : Nat) : Int) ∧ v17 = .int .i64 (q : Int) ∧ Aside0 (Below w4.heap.size w4 w'))
            case atStart => exact ⟨0, by omega, by simp, rfl, hb5⟩
            case round =>
              obtain ⟨q, hqq, rfl, rfl, hb6⟩ := hrel
              clear hb5
              cases gk with
              | succ k3 =>
                have hql : q < G.length := by omega
                have f1 : decide ((q : Int) < (G.length : Int)) = true := by simp; omega
                have f1b : decide (q < G.length) = true := by simp; omega
                have r1 : 0 ≤ (q : Int) := by omega
                have r2 : (q : Int) < (G.length : Int) := by omega
                obtain ⟨ad4, ea4, y0⟩ := Kd.at_int (Kd.C_below HO4.out hb6.out) (q : Int) r1 r2
                cases ea4
                have hz : rd G (q : Int) = G[q] := by simp [rd, List.getD_eq_getElem?_getD, hql]
                rw [hz, Int.toNat_natCast] at y0
                obtain ⟨ad5, ea5, x0⟩ := HYX.out wr hb6.out
                cases ea5
                have hct : (G.take (q + 1)).count y = (G.take q).count y + (if G[q] == y then 1 else 0) := by rw [List.take_succ_eq_append_getElem hql, List.count_append, List.count_singleton]
                have hcl : (G.take q).count y ≤ q := Nat.le_trans (List.count_le_length ..) (by rw [List.length_take]; omega)
                have ewq : Aside0 (wrap64 ((q : Int) + 1) = ((q + 1 : Nat) : Int)) := ⟨by unfold wrap64; omega⟩
                generalize (G.take q).count y = m at *
                have ewm : Aside0 (wrap64 ((m : Int) + 1) = ((m + 1 : Nat) : Int)) := ⟨by unfold wrap64; omega⟩
                replace r1 := eq_true r1
                replace r2 := eq_true r2
                generalize G[q] = z at *
                by_cases hzy : z = y
                · subst hzy
                  have g1 : (z == z) = true := by simp
                  have HCT : Aside0 ((G.take (q + 1)).count z = m + 1) := ⟨by rw [hct, g1]; rfl⟩
                  clear hct hz hcl
                  go_wp2
                  go_quiet (fail)
                  go_wp2
                  go_roundg k3
                  case rel => exact ⟨q + 1, by omega, by rw [HCT.out]; first | rfl | rw [ewm.out], by first | rfl | rw [ewq.out], ⟨pw_below_drewN hb6.out nq⟩⟩
                  all_goals omega
                · have g1 : (z == y) = false := by simpa using hzy
                  have HCT : Aside0 ((G.take (q + 1)).count y = m) := ⟨by rw [hct, g1]; rfl⟩
                  clear hct hz hcl hzy
                  go_wp2
                  go_quiet (fail)
                  go_wp2
                  go_roundg k3
                  case rel => exact ⟨q + 1, by omega, by rw [HCT.out], by first | rfl | rw [ewq.out], ⟨pw_below_drewN hb6.out nq⟩⟩
                  all_goals omega
              | zero =>
                obtain rfl : q = G.length := by omega
                have f1 : decide ((G.length : Int) < (G.length : Int)) = false := by simp
                rw [List.take_length, HC1.out]
                go_wp2
                go_roundg k2
                case rel => exact ⟨i + 1, by omega, by first | rfl | rw [ewi.out], hb6⟩
                all_goals omega
          | zero =>
            obtain rfl : i = X.length := by omega
            have e1 : decide ((X.length : Int) < (X.length : Int)) = false := by simp
            have e2 : ((G.length : Int) == (X.length : Int)) = true := by rw [beq_iff_eq]; omega
            have e3 : decide ((X.length : Int) ≤ 24) = true := by simp; omega
            have hwt := Waiting_calls (AS.below HS.out.arm hb5.out) (by simp)
            clear HX4 HO4 HCNT HX
            go_wp2_with (go_at_call 19; with_reducible refine hwt.mono ?_; rintro e w6 ⟨⟨v6, rfl, ho6⟩, hb6⟩; obtain ⟨A6, c6, e6⟩ := Kd.R_slice ho6; subst e6; have HB6 := Aside0.mk hb6; clear ho6 hb6 hwt)
            go_ret
            exact ⟨rfl, below_then H2.out H2.out.size (below_step hb5.out HB6.out)⟩
      · have hout : outN s' M = ((pickA s' M).1.f0, true) := by unfold outN; rw [if_neg h0]
        have hst : stN s' M = nextA (s', M) := by unfold stN; rw [if_neg h0]
        rw [hout, hst] at hnx
        have h1 := hP.out
        rw [run_step hinv (Nat.pos_of_ne_zero h0)] at h1
        have hdl := dropA_len hinv (Nat.pos_of_ne_zero h0)
        have hin : Aside0 (∃ N, N + k1 ≤ 120 ∧ Inv N (nextA (s', M)).1 (nextA (s', M)).2) := ⟨N + 1, by omega, by have := inv_stN hinv; rw [hst] at this; exact this⟩
        have hp1 : Aside0 ((done ++ [(pickA s' M).1.f0]) ++ (CC.runN (nextA (s', M)).2.length (nextA (s', M)).1 (nextA (s', M)).2).1 = O.1) := ⟨by rw [← h1, List.append_assoc]; rfl⟩
        have hml : Aside0 ((nextA (s', M)).2.length < k1) := ⟨by show (dropA M (pickA s' M).1.f0).length < k1; omega⟩
        have el : done.length < 1000 := by
          have := congrArg List.length h1
          rw [List.length_append, hol] at this
          omega
        have EL := Aside0.mk el
        have ew : Aside0 (wrap64 ((j : Int) + 1) = ((j + 1 : Nat) : Int)) := ⟨by unfold wrap64; omega⟩
        generalize (pickA s' M).1.f0 = x at *
        generalize (nextA (s', M)).1 = s9 at *
        generalize (nextA (s', M)).2 = M9 at *
        clear hout hst hinv h0 h1 hdl hS hP hI el
        go_upto_region 11 with (go_at_call 20; with_reducible refine hnx.mono ?_; rintro e w4 ⟨rfl, h1, h2⟩; have H1 := Aside0.mk h1; have H2 := Aside0.mk h2; clear h1 h2 hnx)
        obtain ⟨P, Q, hs, h2, h3, h4, h5⟩ := H1.out
        have HRW := Aside0.mk hs.row
        have HS := Aside0.mk hs
        have H23 := Aside0.mk (And.intro h2 (And.intro h3 (And.intro h4 h5)))
        clear hs h2 h3 h4 h5 H1
        go_wp2_with (first | ((with_reducible refine gate_builtin (b := .append) (xs := #[.tmp 45, .tmp 47]) rfl ?_); at_builtin; refine Kd.R_append (Kd.int .i64) (w0 := w) w.heap.size rfl (.tmp 45) (.tmp 47) 23 3 (.int .i64 0) 8 rfl Try.underlying23 info3 rfl (by decide) (by omega) _ done x [.int .i64 x] (fun k => Q k ∨ w4.heap.size ≤ k) (fun _ => False) rfl rfl ?aP (fun _ hk => hk.elim) ?aF ?aO H2.out ?aS ?aL ?_; (case aP => exact rfl); (case aF => exact (fun _ hk => .inr hk)); (case aO => exact Kd.R_mono HRW.out (fun _ hk => .inl hk)); (case aS => exact H2.out.size); (case aL => have := EL.out; omega); intro v2 w9 ho hb9 hg hat; have HO9 := Aside0.mk ho; have HB9 := Aside0.mk hb9; have HG9 := Aside0.mk hg; clear ho hb9 hg hat))
        have htr := trip_app HS.out H23.out.1 H23.out.2.1 H23.out.2.2.1 H23.out.2.2.2 HO9.out HG9.out
        have HTR := Aside0.mk htr
        clear htr HS H23 HRW HO9 HG9
        go_roundg k1
        case rel => exact ⟨j + 1, done ++ [x], s9, M9, hml.out, by omega, by first | rfl | rw [ew.out], hp1, hin, HTR, HB9⟩
        all_goals omega
end Go.Proofs.Ytfbjeiloefocgaa.PT
