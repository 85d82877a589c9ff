import Derived.Test.YtlmnagbfmkaglaaHA
/-! The walk of the law CacheFew. -/
namespace Go.Proofs.Ytlmnagbfmkaglaa.PM
open Go.RowKit Go.Proofs.Ytlmnagbfmkaglaa.PG Go.Proofs.Ytlmnagbfmkaglaa.PI Go.Proofs.Ytlmnagbfmkaglaa.CC Go.Proofs.YtlmnagbfmkaglaaW.PrintWords Go.Proofs.YtlmnagbfmkaglaaW.PrintLast Go.Proofs.YtlmnagbfmkaglaaW.PrintMore
attribute [local go_sem] Oper.semAt_some
/-- How a use ends. -/
def Out (r1 r2 : Int) (had : Bool) (L M : List S59) (b : Int) : Prop :=
  (r1 = -1 ∧ r2 = 2 ∧ M = L ∧ (b < 0 ∨ 96 ≤ b)) ∨ (r1 = -1 ∧ r2 = 11 ∧ M = L ∧ 0 ≤ b ∧ b < 96) ∨ (r2 = 0 ∧ hasC M b = true ∧ ((r1 = -1 ∧ had = true ∧ M.map (·.f0) = L.map (·.f0)) ∨ (r1 = -1 ∧ had = false) ∨ (hasC M r1 = false ∧ M.length = L.length ∧ had = false)))
theorem use_out {k : Nat} {most b : Int} {L : List S59} (hi : Inv k most L) : Out (useL most L b).1.1 (useL most L b).1.2 (hasC L b) L (useL most L b).2 b := by
  unfold useL Out
  by_cases h1 : b < 0 ∨ 96 ≤ b
  · rw [if_pos h1]; exact .inl ⟨rfl, rfl, rfl, h1⟩
  · rw [if_neg h1]
    by_cases h2 : 0 ≤ ix L b
    · rw [if_pos h2]
      obtain ⟨x, hx, e⟩ := ix_pos.1 h2
      refine .inr (.inr ⟨rfl, decide_eq_true (ix_pos.2 ⟨touch x, List.mem_map.2 ⟨x, hx, by rw [if_pos e]⟩, e⟩), .inl ⟨rfl, decide_eq_true h2, ?_⟩⟩)
      show (updL b touch L).map (·.f0) = L.map (·.f0)
      unfold updL
      rw [List.map_map]
      refine List.map_congr_left fun y _ => ?_
      simp only [Function.comp]
      split <;> rfl
    · rw [if_neg h2]
      have hb : ∀ x ∈ L, x.f0 ≠ b := ix_neg (by omega)
      have hhad : hasC L b = false := decide_eq_false h2
      by_cases h3 : (L.length : Int) < most
      · rw [if_pos h3]
        exact .inr (.inr ⟨rfl, decide_eq_true (ix_pos.2 ⟨inF b, by simp, rfl⟩), .inr (.inl ⟨rfl, hhad⟩)⟩)
      · rw [if_neg h3]
        by_cases h4 : L.any canB = false
        · rw [if_pos h4]
          exact .inr (.inl ⟨rfl, rfl, rfl, by omega, by omega⟩)
        · rw [if_neg h4]
          obtain ⟨x, t, ht⟩ := turn_ok L (by simpa using h4)
          rw [ht]
          obtain ⟨q1, q2, q3⟩ := turn_clr ht
          refine .inr (.inr ⟨rfl, decide_eq_true (ix_pos.2 ⟨inF b, by simp, rfl⟩), .inr (.inr ⟨decide_eq_false (fun e => ?_), by simpa using q2, hhad⟩)⟩)
          obtain ⟨y, hy, ey⟩ := ix_pos.1 e
          rcases List.mem_append.1 hy with hy | hy
          · have hn := q3 hi.nd
            unfold Nd at hn
            rw [List.map_cons, List.nodup_cons] at hn
            exact hn.1 (List.mem_map.2 ⟨y, hy, ey⟩)
          · simp only [List.mem_cons, List.not_mem_nil, or_false] at hy
            subst hy
            obtain ⟨u, hu, eu⟩ := q1 x (by simp)
            exact hb u hu ((show (clr u).f0 = (clr x).f0 by rw [eu]).trans ey.symm)
def selvedgelaw08_CacheFew.f (a0 : Int) (_l1 : List S50) (_a2 : Int) : Option Bool := if 0 ≤ a0 ∧ a0 < 256 then some true else none
set_option maxHeartbeats 4000000 in
set_option maxRecDepth 100000 in
theorem few_in (a0 : Int) (m : Nat) (hm : 1 ≤ m ∧ m ≤ 8) (A1 : Option Addr) (c1 : Nat) (l1 : List S50) (b : Int) (w : World) (e1 : wrap64 ((wrap64 a0).tmod 8 + 1) = (m : Int)) (L : List S59) (hi : Inv 80 (m : Int) L)
    (hp : Calls Try.prog 14 #[.int .u8 a0, .slice A1 l1.length c1] w fun e w' => (∃ gc gr, e = .returned (.tuple #[.pointer (some ⟨gc, 0, none⟩), .pointer (some ⟨gr, 0, none⟩), .bool true]) ∧ ∃ Pc Pr, Two w.heap.size Pc Pr w' gc gr (m : Int) L) ∧ Below w.heap.size w w') :
    Calls Try.prog 6 #[.int .u8 a0, .slice A1 l1.length c1, .int .i64 b] w fun e w' => e = .returned (.bool true) ∧ Below w.heap.size w w' := by
  have hlv := fun W => live_calls W
  have E1 := Aside0.mk e1
  have hout := use_out (b := b) hi
  have hinv := inv_use b hi
  obtain ⟨H, hH⟩ : ∃ H, hasC L b = H := ⟨_, rfl⟩
  obtain ⟨X1, hX1⟩ : ∃ X, L.map (·.f0) = X := ⟨_, rfl⟩
  have hxl : X1.length = L.length := by rw [← hX1, List.length_map]
  rw [hH] at hout
  have HXL := Aside0.mk hxl
  clear hxl
  clear e1 hm
  go_enter Try.func6, Try.ntmps6
  go_upto_region 4 with (first | (go_at_call 14; with_reducible refine hp.mono ?_; rintro e w1 ⟨⟨gc, gr, rfl, Pc, Pr, hT⟩, hb⟩; have HT := Aside0.mk hT; have HB := Aside0.mk hb; clear hT hb) | (go_at_call 12; with_reducible refine (hlv _).mono ?_; rintro e w2 ⟨rfl, hb2⟩; have HT2 := Aside0.mk (Two.below HT.out hb2); have HB2 := Aside0.mk (below_step HB.out hb2); clear hb2))
  have c15 := Has_A gc Pc (m : Int) L b w2 HT2.out.ac hi
  have c13 := fun W (hb : Below w2.heap.size w2 W) => List_A gc Pc (m : Int) L W (HT2.out.ac.below hb) hi
  rw [hH] at c15
  simp only [hX1] at c13
  go_upto_region 5 with (first | (go_at_call 15; with_reducible refine c15.mono ?_; rintro e w3 ⟨rfl, hb3⟩; have HB3 := Aside0.mk hb3; clear hb3) | (go_at_call 13; with_reducible refine (c13 _ HB3.out).mono ?_; rintro e w4 ⟨⟨v4, rfl, ho4⟩, hb4⟩; obtain ⟨A4, c4, e4⟩ := Kd.R_slice ho4; subst e4; have HO4 := Aside0.mk ho4; have HB4 := Aside0.mk hb4; clear ho4 hb4))
  have hbw4 : Below w2.heap.size w2 w4 := below_step HB3.out HB4.out
  have cuse : Calls Try.prog 11 #[.pointer (some ⟨gc, 0, none⟩), .int .i64 b] w4 fun e w' => e = .returned (.tuple #[.int .i64 (useL (m : Int) L b).1.1, .int .i64 (useL (m : Int) L b).1.2]) ∧ Aside0 ((∃ Pc' Pr', AC w.heap.size Pc' w' gc (m : Int) (useL (m : Int) L b).2 ∧ AR w.heap.size Pr' w' gr (m : Int) L ∧ ∀ k, Pc' k → ¬ Pr' k) ∧ Kd.R (Kd.int .i64) 3 w' w3.heap.size (fun _ => True) (.slice A4 X1.length c4) X1 ∧ Below w.heap.size w w') := by
    refine (Use_A gc _ (m : Int) L b w w4 (below_step HB2.out hbw4) ((HT2.out.ac.bound).below hbw4) hi).mono ?_
    rintro e w' ⟨rfl, hc, hb, hk⟩
    have ho := Kd.R_mono (Kd.R_bound HO4.out) (ok' := fun k => w3.heap.size ≤ k) (fun k hk => hk.2.1)
    refine ⟨rfl, ⟨⟨_, _, hc, ((HT2.out.ar.bound).below hbw4).kept hk (fun k h1 h2 => HT2.out.ap k h2.1 h1.1), fun k h1 h2 => ?_⟩, Kd.R_mono (Kd.R_keptB ho hk (fun k h1 h2 => by have := HB3.out.size; have := h2.2; omega)) (fun _ _ => trivial), hb⟩⟩
    rcases h1 with h1 | h1
    · exact HT2.out.ap k h1.1 h2.1.1
    · have := hbw4.size; have := h2.1.2; omega
  generalize (useL (m : Int) L b).1.1 = r1 at *
  generalize (useL (m : Int) L b).1.2 = r2 at *
  generalize (useL (m : Int) L b).2 = M at *
  have hnd : (M.map (·.f0)).Nodup := hinv.nd
  have hxm : (M.map (·.f0)).length = M.length := List.length_map ..
  obtain ⟨X2, hX2⟩ : ∃ X, M.map (·.f0) = X := ⟨_, rfl⟩
  rw [hX2] at hnd hxm
  have HXM := Aside0.mk hxm
  clear hxm
  clear c15 c13 HO4 HB4 HB3 hbw4 hp hlv HT HT2 HB HB2
  go_upto_region 6 with (go_at_call 11; with_reducible refine cuse.mono ?_; rintro e w5 ⟨rfl, h5⟩)
  clear cuse
  have c13b : ∀ W, Below w5.heap.size w5 W → Calls Try.prog 13 #[.pointer (some ⟨gc, 0, none⟩)] W fun e w' => (∃ v, e = .returned v ∧ Kd.R (Kd.int .i64) 3 w' W.heap.size (fun _ => True) v X2) ∧ Below W.heap.size W w' := by
    intro W hb
    obtain ⟨⟨Pc', Pr', hc, -, -⟩, -, -⟩ := h5.out
    rw [← hX2]
    exact List_A gc Pc' (m : Int) M W (hc.below hb) hinv
  go_upto_region 7 with (go_at_call 13; with_reducible refine (c13b _ (Below.refl _ _)).mono ?_; rintro e w6 ⟨⟨v6, rfl, ho6⟩, hb6⟩; obtain ⟨A6, c6, e6⟩ := Kd.R_slice ho6; subst e6; have HO6 := Aside0.mk ho6; have HB6 := Aside0.mk hb6; clear ho6 hb6)
  have hC6 := (Kd.R_reads' HO6.out).2.2
  have HC6 := Aside0.mk hC6
  have HND := Aside0.mk hnd
  have HX2 := Aside0.mk hX2
  have HX1 := Aside0.mk hX1
  have HOUT := Aside0.mk hout
  have hlen6 : X2.length < 1000 := by rw [HXM.out]; exact hinv.lt
  clear c13b hC6 hnd hX2 hX1 hout
  go_wp2
  go_loopg [15] X2.length (fun kq v15 w' => ∃ i : Nat, i + kq = X2.length ∧ v15 = .int .i64 (i : Int) ∧ Aside0 (Below w6.heap.size w6 w'))
  case atStart => exact ⟨0, by omega, rfl, ⟨Below.refl _ _⟩⟩
  case round =>
    obtain ⟨i, hiq, rfl, hb7⟩ := hrel
    cases gk with
    | succ k1 =>
      have hlt : i < X2.length := by omega
      have d1 : decide ((i : Int) < (X2.length : Int)) = true := by simp; omega
      have ewi : Aside0 (wrap64 ((i : Int) + 1) = ((i + 1 : Nat) : Int)) := ⟨by unfold wrap64; omega⟩
      go_wp2
      go_loopg [16] i (fun kq2 v16 w' => ∃ j : Nat, j + kq2 = i ∧ v16 = .int .i64 (j : Int) ∧ Aside0 (Below w6.heap.size w6 w'))
      case atStart => exact ⟨0, by omega, rfl, hb7⟩
      case round =>
        obtain ⟨j, hjq, rfl, hb8⟩ := hrel
        clear hb7
        cases gk with
        | succ k2 =>
          have hjl : j < i := by omega
          have d2 : decide ((j : Int) < (i : Int)) = true := by simp; omega
          have p1 : 0 ≤ (i : Int) := by omega
          have p2 : (i : Int) < (X2.length : Int) := by omega
          have p3 : 0 ≤ (j : Int) := by omega
          have p4 : (j : Int) < (X2.length : Int) := by omega
          obtain ⟨ad, ea, x0⟩ := Kd.at_int (Kd.C_below HC6.out hb8.out) (i : Int) p1 p2
          obtain ⟨ad2, ea2, y0⟩ := Kd.at_int (Kd.C_below HC6.out hb8.out) (j : Int) p3 p4
          cases ea
          cases ea2
          have hx : rd X2 (i : Int) = X2[i] := by simp [rd, List.getD_eq_getElem?_getD, hlt]
          have hy : rd X2 (j : Int) = X2[j]'(by omega) := by simp [rd, List.getD_eq_getElem?_getD, show j < X2.length by omega]
          have hne : (X2[i] == X2[j]'(by omega)) = false := by
            rw [beq_eq_false_iff_ne]
            intro e
            exact List.pairwise_iff_getElem.1 HND.out j i (by omega) hlt hjl e.symm
          rw [hx] at x0
          rw [hy] at y0
          rw [Int.toNat_natCast] at x0 y0
          generalize X2[i] = xi at *
          generalize X2[j]'(by omega) = xj at *
          replace p1 := eq_true p1
          replace p2 := eq_true p2
          replace p3 := eq_true p3
          replace p4 := eq_true p4
          have ewj : Aside0 (wrap64 ((j : Int) + 1) = ((j + 1 : Nat) : Int)) := ⟨by unfold wrap64; omega⟩
          clear hx hy
          go_wp2
          repeat (go_quiet (fail); try go_wp2)
          go_roundg k2
          case rel => exact ⟨j + 1, by omega, by first | rfl | rw [ewj.out], ⟨pw_below_drewN hb8.out nq⟩⟩
          all_goals omega
        | zero =>
          have d2 : decide ((j : Int) < (i : Int)) = false := by simp; omega
          go_wp2
          go_roundg k1
          case rel => exact ⟨i + 1, by omega, by first | rfl | rw [ewi.out], hb8⟩
          all_goals omega
    | zero =>
      have d1 : decide ((i : Int) < (X2.length : Int)) = false := by simp; omega
      have hb57 : Below w5.heap.size w5 wr := below_step HB6.out hb7.out
      obtain ⟨⟨Pc', Pr', hc5, hr5, hap⟩, ho5, hbw5⟩ := h5.out
      have HAC := Aside0.mk (hc5.below hb57)
      have HAR := Aside0.mk (hr5.below hb57)
      have HR4 := Aside0.mk (Kd.R_below ho5 hb57)
      have HR6 := Aside0.mk (Kd.R_below HO6.out hb7.out)
      have HBW := Aside0.mk (below_then hbw5 hbw5.size hb57)
      have hhas := fun (y : Int) W (hb : Below wr.heap.size wr W) => Has_A gc Pc' (m : Int) M y W (HAC.out.below hb) hinv
      clear hc5 hr5 ho5 hbw5 hb57 h5 HC6 HO6
      rcases HOUT.out with ⟨rfl, rfl, hML, hbb⟩ | ⟨rfl, rfl, hML, hb0, hb1⟩ | ⟨rfl, hhb, hcase⟩
      · have HTT : Aside0 (Two w.heap.size Pc' Pr' wr gc gr (m : Int) L) := ⟨⟨by have := HAC.out; rw [hML] at this; exact this, HAR.out, hap⟩⟩
        clear hML
        by_cases hlow : b < 0
        · have d2 : decide (b < 0) = true := by simpa using hlow
          go_wp2_with (first | (go_at_call 19; with_reducible refine (same_calls _ _ _ _ _ _ _ _ HTT.out hi).mono ?_; rintro e w9 ⟨rfl, hb9⟩))
          go_ret
          exact ⟨rfl, below_then HBW.out HBW.out.size hb9⟩
        · have d2 : decide (b < 0) = false := by simpa using hlow
          have d3 : decide (96 ≤ b) = true := by simp; omega
          go_wp2_with (first | (go_at_call 19; with_reducible refine (same_calls _ _ _ _ _ _ _ _ HTT.out hi).mono ?_; rintro e w9 ⟨rfl, hb9⟩))
          go_ret
          exact ⟨rfl, below_then HBW.out HBW.out.size hb9⟩
      · have HTT : Aside0 (Two w.heap.size Pc' Pr' wr gc gr (m : Int) L) := ⟨⟨by have := HAC.out; rw [hML] at this; exact this, HAR.out, hap⟩⟩
        clear hML
        have d2 : decide (b < 0) = false := by simp; omega
        have d3 : decide (96 ≤ b) = false := by simp; omega
        go_wp2_with (first | (go_at_call 19; with_reducible refine (same_calls _ _ _ _ _ _ _ _ HTT.out hi).mono ?_; rintro e w9 ⟨rfl, hb9⟩))
        go_ret
        exact ⟨rfl, below_then HBW.out HBW.out.size hb9⟩
      · have d2 : decide ((X2.length : Int) ≤ wrap64 ((wrap64 a0).tmod 8 + 1)) = true := by rw [E1.out, HXM.out]; simpa using hinv.len
        have h15b := hhas b
        rw [hhb] at h15b
        rcases hcase with ⟨rfl, hhad, hXX⟩ | ⟨rfl, hhad⟩ | ⟨hng, hlen, hhad⟩
        · have hxx : X2 = X1 := by rw [← HX2.out, ← HX1.out]; exact hXX
          have hsame := selvedgeref01_Same.calls (X1.length + 1) A4 c4 X1 A6 c6 X2 true
          have hs := same_self X1 (by rw [← hxx]; exact hlen6)
          subst hhad
          subst hxx
          go_wp2_with (first | (go_at_call 15; with_reducible refine (h15b _ (Below.refl _ _)).mono ?_; rintro e w9 ⟨rfl, hb9⟩; have HB9 := Aside0.mk hb9; clear hb9) | (go_at_call 20; with_reducible refine (hsame w9 (Kd.R_reads' (Kd.R_below HR4.out HB9.out)).2.2 (Kd.R_reads' HR4.out).2.1 (Kd.R_reads' (Kd.R_below HR6.out HB9.out)).2.2 (Kd.R_reads' HR6.out).2.1 hs).mono ?_; rintro e w10 ⟨rfl, hb10⟩))
          go_ret
          exact ⟨rfl, below_then HBW.out HBW.out.size (below_step HB9.out hb10.below)⟩
        · subst hhad
          go_wp2_with (first | (go_at_call 15; with_reducible refine (h15b _ (Below.refl _ _)).mono ?_; rintro e w9 ⟨rfl, hb9⟩; have HB9 := Aside0.mk hb9; clear hb9))
          go_ret
          exact ⟨rfl, below_then HBW.out HBW.out.size HB9.out⟩
        · subst hhad
          have h15g := hhas r1
          rw [hng] at h15g
          have hxx : X2.length = X1.length := by rw [HXM.out, HXL.out, hlen]
          have d6 : ((X2.length : Int) == (X1.length : Int)) = true := by rw [hxx]; simp
          clear hxx
          by_cases hr1 : r1 = -1
          · have d5 : (r1 == -1) = true := by simpa using hr1
            go_wp2_with (first | (go_at_call 15; with_reducible refine (h15b _ (Below.refl _ _)).mono ?_; rintro e w9 ⟨rfl, hb9⟩; have HB9 := Aside0.mk hb9; clear hb9))
            go_ret
            exact ⟨rfl, below_then HBW.out HBW.out.size HB9.out⟩
          · have d5 : (r1 == -1) = false := by simpa using hr1
            go_wp2_with (first | (go_at_call 15; first | (with_reducible refine (h15b _ (Below.refl _ _)).mono ?_; rintro e w9 ⟨rfl, hb9⟩; have HB9 := Aside0.mk hb9; clear hb9) | (with_reducible refine (h15g _ HB9.out).mono ?_; rintro e w10 ⟨rfl, hb10⟩)))
            go_ret
            exact ⟨rfl, below_then HBW.out HBW.out.size (below_step HB9.out hb10)⟩
theorem selvedgelaw08_CacheFew.calls (a0 : Int) (A1 : Option Addr) (c1 : Nat) (l1 : List S50) (a2 : Int) (r : Bool) (w : World) (hr1 : Kd.C k50 w A1 l1.length l1) (hc1 : l1.length ≤ c1) (h : selvedgelaw08_CacheFew.f a0 l1 a2 = some r) :
    Calls Try.prog 6 #[.int .u8 a0, .slice A1 l1.length c1, .int .i64 a2] w fun e w' => e = .returned (.bool r) ∧ Below w.heap.size w w' := by
  unfold selvedgelaw08_CacheFew.f at h
  by_cases ha : 0 ≤ a0 ∧ a0 < 256
  · rw [if_pos ha] at h
    obtain rfl := Option.some.inj h
    have hp := play_calls a0 ha A1 c1 l1 w hr1
    have hi := inv_play (most := a0 % 8 + 1) l1 (by omega) (by omega)
    obtain ⟨m, hm⟩ : ∃ m : Nat, a0 % 8 + 1 = (m : Int) := ⟨(a0 % 8 + 1).toNat, by omega⟩
    rw [hm] at hp hi
    exact few_in a0 m (by omega) A1 c1 l1 a2 w (by rw [show wrap64 a0 = a0 by unfold wrap64; omega, Int.tmod_eq_emod_of_nonneg ha.1, hm]; unfold wrap64; omega) _ hi hp
  · rw [if_neg ha] at h; exact absurd h (by simp)
end Go.Proofs.Ytlmnagbfmkaglaa.PM
