import Derived.Test.YtlmnagbfmkaglaaHA
/-! The walk of the law CacheHeld. -/
namespace Go.Proofs.Ytlmnagbfmkaglaa.PL
open Go.RowKit Go.Proofs.Ytlmnagbfmkaglaa.PG Go.Proofs.Ytlmnagbfmkaglaa.PI Go.Proofs.Ytlmnagbfmkaglaa.CC Go.Proofs.YtlmnagbfmkaglaaW.PrintWords Go.Proofs.YtlmnagbfmkaglaaW.PrintLast Go.Proofs.YtlmnagbfmkaglaaW.PrintMore
attribute [local go_sem] Oper.semAt_some
/-- A block is at hand, and can't go. -/
def Held (b : Int) (L : List S59) : Prop := ∃ x ∈ L, x.f0 = b ∧ canB x = false
theorem held_upd {b d : Int} {f : S59 → S59} {L : List S59} (h : Held b L) (hf : ∀ x, (f x).f0 = x.f0 ∧ canB (f x) = canB x) : Held b (updL d f L) := by
  obtain ⟨x, hx, h1, h2⟩ := h
  refine ⟨if x.f0 = d then f x else x, List.mem_map_of_mem hx, ?_, ?_⟩
  · split
    · rw [(hf x).1, h1]
    · exact h1
  · split
    · rw [(hf x).2, h2]
    · exact h2
theorem held_use {k : Nat} {most : Int} {L : List S59} {b d : Int} (hi : Inv k most L) (h : Held b L) (hd : 0 ≤ d ∧ d < 96) (hb : b ≠ -1) : Held b (useL most L d).2 ∧ (useL most L d).1.1 ≠ b ∧ ((useL most L d).1.2 = 0 ∨ (useL most L d).1.2 = 11) := by
  unfold useL
  rw [if_neg (by omega)]
  by_cases h2 : 0 ≤ ix L d
  · rw [if_pos h2]
    exact ⟨held_upd h (fun x => ⟨rfl, rfl⟩), fun e => hb e.symm, .inl rfl⟩
  · rw [if_neg h2]
    by_cases h3 : (L.length : Int) < most
    · rw [if_pos h3]
      obtain ⟨x, hx, h1, h4⟩ := h
      exact ⟨⟨x, List.mem_append_left _ hx, h1, h4⟩, fun e => hb e.symm, .inl rfl⟩
    · rw [if_neg h3]
      by_cases h4 : L.any canB = false
      · rw [if_pos h4]
        exact ⟨h, fun e => hb e.symm, .inr rfl⟩
      · rw [if_neg h4]
        obtain ⟨x, t, ht⟩ := turn_ok L (by simpa using h4)
        rw [ht]
        obtain ⟨q1, q2, q3⟩ := turn_clr ht
        have hcx := turn_head _ _ _ _ ht
        obtain ⟨y, hy, hy1, hy2⟩ := h
        have hp := (turn_keeps _ _ _ ht).mem_iff.2 (List.mem_map_of_mem (f := clr) hy)
        obtain ⟨z, hz, ez⟩ := List.mem_map.1 hp
        have z0 : z.f0 = b := (show (clr z).f0 = b by rw [ez]; exact hy1)
        have zc : canB z = false := (show canB (clr z) = false by rw [ez]; exact hy2)
        have hxb : x.f0 ≠ b := fun e => by
          obtain ⟨u, hu, eu⟩ := q1 x (by simp)
          have u0 : u.f0 = b := (show (clr u).f0 = b by rw [eu]; exact e)
          have := nd_eq hi.nd hu hy (u0.trans hy1.symm)
          have uc : canB u = canB x := (show canB (clr u) = canB (clr x) by rw [eu])
          rw [this, hy2, hcx] at uc
          cases uc
        refine ⟨⟨z, List.mem_append_left _ ?_, z0, zc⟩, hxb, .inl rfl⟩
        rcases List.mem_cons.1 hz with e | e
        · exact absurd (e ▸ z0) hxb
        · exact e
theorem held_has {b : Int} {L : List S59} (h : Held b L) : hasC L b = true := by
  obtain ⟨x, hx, h1, -⟩ := h
  exact decide_eq_true (ix_pos.2 ⟨x, hx, h1⟩)
theorem held_drop {k : Nat} {most : Int} {b : Int} {L : List S59} (hi : Inv k most L) (h : Held b L) : (dropL L b).1 = 12 := by
  obtain ⟨x, hx, h1, h2⟩ := h
  unfold dropL
  have := ix_pos.2 ⟨x, hx, h1⟩
  rw [if_neg (by omega), atL_eq hi.nd hx h1, if_neg (by rw [h2]; decide)]
/-- A block that can be used is used, or the cache is full and it isn't there. -/
theorem use_7 {k : Nat} {most : Int} {L : List S59} {b : Int} (hi : Inv k most L) (hb : 0 ≤ b ∧ b < 96) : ((useL most L b).1.2 = 0 ∧ ∃ x ∈ (useL most L b).2, x.f0 = b) ∨ ((useL most L b).1.2 = 11 ∧ hasC (useL most L b).2 b = false) := by
  unfold useL
  rw [if_neg (by omega)]
  by_cases h2 : 0 ≤ ix L b
  · rw [if_pos h2]
    obtain ⟨x, hx, e⟩ := ix_pos.1 h2
    exact .inl ⟨rfl, touch x, List.mem_map.2 ⟨x, hx, by rw [if_pos e]⟩, e⟩
  · rw [if_neg h2]
    by_cases h3 : (L.length : Int) < most
    · rw [if_pos h3]
      exact .inl ⟨rfl, inF b, by simp, rfl⟩
    · rw [if_neg h3]
      by_cases h4 : L.any canB = false
      · rw [if_pos h4]
        exact .inr ⟨rfl, by unfold hasC; exact decide_eq_false h2⟩
      · rw [if_neg h4]
        obtain ⟨x, t, ht⟩ := turn_ok L (by simpa using h4)
        rw [ht]
        exact .inl ⟨rfl, inF b, by simp, rfl⟩
theorem held_pin {k : Nat} {most : Int} {L : List S59} {b : Int} (hi : Inv k most L) (hk : k < 1000) (h : ∃ x ∈ L, x.f0 = b) : Held b (pinL L b true).2 := by
  obtain ⟨x, hx, e⟩ := h
  unfold pinL
  have := ix_pos.2 ⟨x, hx, e⟩
  rw [if_neg (by omega)]
  refine ⟨(pin1 x true).2, List.mem_map.2 ⟨x, hx, by rw [if_pos e]⟩, e, ?_⟩
  have hp := hi.pins x hx
  show (wrap64 (x.f1 + 1) == 0 && !x.f2) = false
  have : (wrap64 (x.f1 + 1) == 0) = false := by
    rw [beq_eq_false_iff_ne]; unfold wrap64; omega
  rw [this]; rfl
theorem held_dirty {L : List S59} {b : Int} (h : ∃ x ∈ L, x.f0 = b) : Held b (dirtyL L b true).2 := by
  obtain ⟨x, hx, e⟩ := h
  unfold dirtyL
  have := ix_pos.2 ⟨x, hx, e⟩
  rw [if_neg (by omega)]
  refine ⟨⟨x.f0, x.f1, true, x.f3⟩, List.mem_map.2 ⟨x, hx, by rw [if_pos e]⟩, e, ?_⟩
  show (x.f1 == 0 && !true) = false
  simp
/-- The cache, alone. -/
def One (B : Nat) (w : World) (g : Nat) (k : Nat) (most : Int) (p : List S59 → Prop) : Prop := ∃ P L, AC B P w g most L ∧ Inv k most L ∧ p L
def selvedgelaw08_CacheHeld.f (a0 : Int) (_l1 : List S50) (l2 : List Int) : Option Bool := if (0 ≤ a0 ∧ a0 < 256) ∧ ∀ y ∈ l2, 0 ≤ y ∧ y < 256 then some true else none
set_option maxHeartbeats 4000000 in
set_option maxRecDepth 100000 in
theorem selvedgelaw08_CacheHeld.calls (a0 : Int) (A1 : Option Addr) (c1 : Nat) (l1 : List S50) (A2 : Option Addr) (c2 : Nat) (l2 : List Int) (r : Bool) (w : World) (hr1 : Kd.C k50 w A1 l1.length l1) (hc1 : l1.length ≤ c1) (hr2 : Kd.C (Kd.int .u8) w A2 l2.length l2) (hc2 : l2.length ≤ c2) (h : selvedgelaw08_CacheHeld.f a0 l1 l2 = some r) :
    Calls Try.prog 4 #[.int .u8 a0, .slice A1 l1.length c1, .slice A2 l2.length c2] w fun e w' => e = .returned (.bool r) ∧ Below w.heap.size w w' := by
  unfold selvedgelaw08_CacheHeld.f at h
  by_cases ha : (0 ≤ a0 ∧ a0 < 256) ∧ ∀ y ∈ l2, 0 ≤ y ∧ y < 256
  rotate_left
  · rw [if_neg ha] at h; exact absurd h (by simp)
  rw [if_pos ha] at h
  obtain rfl := Option.some.inj h
  obtain ⟨ha0, hl2⟩ := ha
  have hp := play_calls a0 ha0 A1 c1 l1 w hr1
  have hi := inv_play (most := a0 % 8 + 1) l1 (by omega) (by omega)
  have hlv := fun W => live_calls W
  obtain ⟨L, hL⟩ : ∃ L, playL (a0 % 8 + 1) l1 = L := ⟨_, rfl⟩
  rw [hL] at hp hi
  generalize hm : a0 % 8 + 1 = m at *
  have HC := Aside0.mk hr2
  have HL2 := Aside0.mk hl2
  clear h hr1 hc1 hc2 hr2 hL hl2
  go_enter Try.func4, Try.ntmps4
  go_upto_region 4 with (first | (go_at_call 14; with_reducible refine hp.mono ?_; rintro e w1 ⟨⟨gc, gr, rfl, Pc, Pr, hT⟩, hb⟩; have HT := Aside0.mk hT; have HB := Aside0.mk hb; clear hT hb) | (go_at_call 12; with_reducible refine (hlv _).mono ?_; rintro e w2 ⟨rfl, hb2⟩; have HT2 := Aside0.mk (Two.below HT.out hb2); have HB2 := Aside0.mk (below_step HB.out hb2); clear hb2))
  have hu := Use_A gc Pc m L 7 w w2 HB2.out HT2.out.ac hi
  have hiu := inv_use 7 hi
  clear HT HB HT2 hp hlv
  rcases use_7 hi (b := 7) (by decide) with ⟨he, hx⟩ | ⟨he, hx⟩
  · rw [he] at hu
    obtain ⟨r1, hr1⟩ : ∃ r1, (useL m L 7).1.1 = r1 := ⟨_, rfl⟩
    rw [hr1] at hu
    rcases (show a0.tmod 2 = 0 ∨ a0.tmod 2 = 1 by rw [Int.tmod_eq_emod_of_nonneg ha0.1]; omega) with hpar | hpar
    · replace hpar : a0.tmod 2 = 0 := hpar
      go_upto_region 10 with (first | (go_at_call 11; with_reducible refine hu.mono ?_; rintro e w3 ⟨rfl, hc3, hb3, -⟩; have HC3 := Aside0.mk hc3; have HB3 := Aside0.mk hb3; clear hc3 hb3) | (go_at_call 16; with_reducible refine (Pin_A _ _ _ _ 7 _ _ true HB3.out HC3.out hiu).mono ?_; rintro e w4 ⟨rfl, hc4, hb4, -⟩; have HC4 := Aside0.mk hc4; have HB4 := Aside0.mk hb4; clear hc4 hb4))
      have hone : One w.heap.size w4 gc 81 m (Held 7) := ⟨_, _, HC4.out, (inv_pin 7 true hiu (by decide)), held_pin hiu (by decide) hx⟩
      have HONE := Aside0.mk hone
      clear hone HC3 HC4 HB3 hu hiu hx hr1 he
      go_wp2
      go_loopg [12] (min l2.length 60) (fun kq v12 w' => ∃ i : Nat, i + kq = min l2.length 60 ∧ v12 = .int .i64 (i : Int) ∧ Aside0 (One w.heap.size w' gc 81 m (Held 7)) ∧ Aside0 (Below w.heap.size w w'))
      case atStart => exact ⟨0, by omega, rfl, HONE, HB4⟩
      case round =>
        obtain ⟨i, hiq, rfl, hO, hb⟩ := hrel
        clear HONE HB4
        obtain ⟨P, M, hac, hinv, hh⟩ := hO.out
        have HA := Aside0.mk hac
        have HH := Aside0.mk hh
        clear hac hh hO
        cases gk with
        | succ k1 =>
          have hlt : i < l2.length := by omega
          have d1 : decide ((i : Int) < (l2.length : Int)) = true := by simp; omega
          have d2 : decide ((i : Int) < 60) = true := by simp; omega
          have p1 : 0 ≤ (i : Int) := by omega
          have p2 : (i : Int) < (l2.length : Int) := by omega
          obtain ⟨ad, ea, x0⟩ := Kd.at_int (Kd.C_below HC.out hb.out) (i : Int) p1 p2
          cases ea
          have hy : rd l2 (i : Int) = l2[i] := by simp [rd, List.getD_eq_getElem?_getD, hlt]
          have hyr := HL2.out l2[i] (List.getElem_mem hlt)
          rw [hy] at x0
          obtain ⟨y, hyy⟩ : ∃ y, l2[i] = y := ⟨_, rfl⟩
          rw [hyy] at x0 hyr
          rw [Int.toNat_natCast] at x0
          replace p1 := eq_true p1
          replace p2 := eq_true p2
          have hd : 0 ≤ y % 96 ∧ y % 96 < 96 := by omega
          obtain ⟨g1, g2, g3⟩ := held_use (b := 7) (d := y % 96) hinv HH.out hd (by decide)
          have hus := Use_A gc P m M (y % 96) w wr hb.out HA.out hinv
          have hiv := inv_use (y % 96) hinv
          have NY : Aside0 ((wrap64 y).tmod 96 = y % 96) := ⟨by rw [show wrap64 y = y by unfold wrap64; omega, Int.tmod_eq_emod_of_nonneg hyr.1]⟩
          have ew : Aside0 (wrap64 ((i : Int) + 1) = ((i + 1 : Nat) : Int)) := ⟨by unfold wrap64; omega⟩
          have hhas : ∀ w5, AC w.heap.size (fun k => P k ∨ wr.heap.size ≤ k) w5 gc m (useL m M (y % 96)).2 → Calls Try.prog 15 #[.pointer (some ⟨gc, 0, none⟩), .int .i64 7] w5 fun e w' => e = .returned (.bool true) ∧ Below w5.heap.size w5 w' := fun w5 h5 => by
            have := Has_A gc _ m _ 7 w5 h5 hiv
            rw [held_has g1] at this
            exact this
          have q1 : ((useL m M (y % 96)).1.1 == 7) = false := by simpa using g2
          generalize (useL m M (y % 96)).1.1 = s1 at *
          have G1 := Aside0.mk g1
          have HIV := Aside0.mk hiv
          generalize (useL m M (y % 96)).1.2 = s2 at *
          generalize hMM : (useL m M (y % 96)).2 = MM at *
          clear hy hyy hyr hd hMM g1 g2 hiv
          generalize y % 96 = Y at *
          go_upto_region 13 with (fail)
          rcases g3 with rfl | rfl
          · go_wp2_with (first | (simp only [NY.out]; go_at_call 11; with_reducible refine hus.mono ?_; rintro e w5 ⟨rfl, hc5, hb5, -⟩; have HC5 := Aside0.mk hc5; have HB5 := Aside0.mk hb5; clear hc5 hb5) | (go_at_call 15; with_reducible refine (hhas _ HC5.out).mono ?_; rintro e w6 ⟨rfl, hb6⟩; have HC6 := Aside0.mk (AC.below HC5.out hb6); have HB6 := Aside0.mk (below_then HB5.out HB5.out.size hb6); clear hb6))
            go_roundg k1
            case rel => exact ⟨i + 1, by omega, by first | rfl | rw [ew.out], ⟨_, _, HC6.out, HIV.out, G1.out⟩, HB6⟩
            all_goals omega
          · go_wp2_with (first | (simp only [NY.out]; go_at_call 11; with_reducible refine hus.mono ?_; rintro e w5 ⟨rfl, hc5, hb5, -⟩; have HC5 := Aside0.mk hc5; have HB5 := Aside0.mk hb5; clear hc5 hb5) | (go_at_call 15; with_reducible refine (hhas _ HC5.out).mono ?_; rintro e w6 ⟨rfl, hb6⟩; have HC6 := Aside0.mk (AC.below HC5.out hb6); have HB6 := Aside0.mk (below_then HB5.out HB5.out.size hb6); clear hb6))
            go_roundg k1
            case rel => exact ⟨i + 1, by omega, by first | rfl | rw [ew.out], ⟨_, _, HC6.out, HIV.out, G1.out⟩, HB6⟩
            all_goals omega
        | zero =>
          have hdp := Drop_A gc P m M 7 w wr hb.out HA.out hinv
          rw [held_drop hinv HH.out] at hdp
          by_cases h60 : i < l2.length
          · have d1 : decide ((i : Int) < (l2.length : Int)) = true := by simp; omega
            have d2 : decide ((i : Int) < 60) = false := by simp; omega
            go_wp2_with (go_at_call 18; with_reducible refine hdp.mono ?_; rintro e w5 ⟨rfl, -, hb5, -⟩)
            go_ret
            exact ⟨rfl, hb5⟩
          · have d1 : decide ((i : Int) < (l2.length : Int)) = false := by simp; omega
            go_wp2_with (go_at_call 18; with_reducible refine hdp.mono ?_; rintro e w5 ⟨rfl, -, hb5, -⟩)
            go_ret
            exact ⟨rfl, hb5⟩
    · replace hpar : a0.tmod 2 = 1 := hpar
      go_upto_region 10 with (first | (go_at_call 11; with_reducible refine hu.mono ?_; rintro e w3 ⟨rfl, hc3, hb3, -⟩; have HC3 := Aside0.mk hc3; have HB3 := Aside0.mk hb3; clear hc3 hb3) | (go_at_call 17; with_reducible refine (Dirty_A _ _ _ _ 7 _ _ true HB3.out HC3.out hiu).mono ?_; rintro e w4 ⟨rfl, hc4, hb4, -⟩; have HC4 := Aside0.mk hc4; have HB4 := Aside0.mk hb4; clear hc4 hb4))
      have hone : One w.heap.size w4 gc 81 m (Held 7) := ⟨_, _, HC4.out, ((inv_dirty 7 true hiu).more (by decide)), held_dirty hx⟩
      have HONE := Aside0.mk hone
      clear hone HC3 HC4 HB3 hu hiu hx hr1 he
      go_wp2
      go_loopg [12] (min l2.length 60) (fun kq v12 w' => ∃ i : Nat, i + kq = min l2.length 60 ∧ v12 = .int .i64 (i : Int) ∧ Aside0 (One w.heap.size w' gc 81 m (Held 7)) ∧ Aside0 (Below w.heap.size w w'))
      case atStart => exact ⟨0, by omega, rfl, HONE, HB4⟩
      case round =>
        obtain ⟨i, hiq, rfl, hO, hb⟩ := hrel
        clear HONE HB4
        obtain ⟨P, M, hac, hinv, hh⟩ := hO.out
        have HA := Aside0.mk hac
        have HH := Aside0.mk hh
        clear hac hh hO
        cases gk with
        | succ k1 =>
          have hlt : i < l2.length := by omega
          have d1 : decide ((i : Int) < (l2.length : Int)) = true := by simp; omega
          have d2 : decide ((i : Int) < 60) = true := by simp; omega
          have p1 : 0 ≤ (i : Int) := by omega
          have p2 : (i : Int) < (l2.length : Int) := by omega
          obtain ⟨ad, ea, x0⟩ := Kd.at_int (Kd.C_below HC.out hb.out) (i : Int) p1 p2
          cases ea
          have hy : rd l2 (i : Int) = l2[i] := by simp [rd, List.getD_eq_getElem?_getD, hlt]
          have hyr := HL2.out l2[i] (List.getElem_mem hlt)
          rw [hy] at x0
          obtain ⟨y, hyy⟩ : ∃ y, l2[i] = y := ⟨_, rfl⟩
          rw [hyy] at x0 hyr
          rw [Int.toNat_natCast] at x0
          replace p1 := eq_true p1
          replace p2 := eq_true p2
          have hd : 0 ≤ y % 96 ∧ y % 96 < 96 := by omega
          obtain ⟨g1, g2, g3⟩ := held_use (b := 7) (d := y % 96) hinv HH.out hd (by decide)
          have hus := Use_A gc P m M (y % 96) w wr hb.out HA.out hinv
          have hiv := inv_use (y % 96) hinv
          have NY : Aside0 ((wrap64 y).tmod 96 = y % 96) := ⟨by rw [show wrap64 y = y by unfold wrap64; omega, Int.tmod_eq_emod_of_nonneg hyr.1]⟩
          have ew : Aside0 (wrap64 ((i : Int) + 1) = ((i + 1 : Nat) : Int)) := ⟨by unfold wrap64; omega⟩
          have hhas : ∀ w5, AC w.heap.size (fun k => P k ∨ wr.heap.size ≤ k) w5 gc m (useL m M (y % 96)).2 → Calls Try.prog 15 #[.pointer (some ⟨gc, 0, none⟩), .int .i64 7] w5 fun e w' => e = .returned (.bool true) ∧ Below w5.heap.size w5 w' := fun w5 h5 => by
            have := Has_A gc _ m _ 7 w5 h5 hiv
            rw [held_has g1] at this
            exact this
          have q1 : ((useL m M (y % 96)).1.1 == 7) = false := by simpa using g2
          generalize (useL m M (y % 96)).1.1 = s1 at *
          have G1 := Aside0.mk g1
          have HIV := Aside0.mk hiv
          generalize (useL m M (y % 96)).1.2 = s2 at *
          generalize hMM : (useL m M (y % 96)).2 = MM at *
          clear hy hyy hyr hd hMM g1 g2 hiv
          generalize y % 96 = Y at *
          go_upto_region 13 with (fail)
          rcases g3 with rfl | rfl
          · go_wp2_with (first | (simp only [NY.out]; go_at_call 11; with_reducible refine hus.mono ?_; rintro e w5 ⟨rfl, hc5, hb5, -⟩; have HC5 := Aside0.mk hc5; have HB5 := Aside0.mk hb5; clear hc5 hb5) | (go_at_call 15; with_reducible refine (hhas _ HC5.out).mono ?_; rintro e w6 ⟨rfl, hb6⟩; have HC6 := Aside0.mk (AC.below HC5.out hb6); have HB6 := Aside0.mk (below_then HB5.out HB5.out.size hb6); clear hb6))
            go_roundg k1
            case rel => exact ⟨i + 1, by omega, by first | rfl | rw [ew.out], ⟨_, _, HC6.out, HIV.out, G1.out⟩, HB6⟩
            all_goals omega
          · go_wp2_with (first | (simp only [NY.out]; go_at_call 11; with_reducible refine hus.mono ?_; rintro e w5 ⟨rfl, hc5, hb5, -⟩; have HC5 := Aside0.mk hc5; have HB5 := Aside0.mk hb5; clear hc5 hb5) | (go_at_call 15; with_reducible refine (hhas _ HC5.out).mono ?_; rintro e w6 ⟨rfl, hb6⟩; have HC6 := Aside0.mk (AC.below HC5.out hb6); have HB6 := Aside0.mk (below_then HB5.out HB5.out.size hb6); clear hb6))
            go_roundg k1
            case rel => exact ⟨i + 1, by omega, by first | rfl | rw [ew.out], ⟨_, _, HC6.out, HIV.out, G1.out⟩, HB6⟩
            all_goals omega
        | zero =>
          have hdp := Drop_A gc P m M 7 w wr hb.out HA.out hinv
          rw [held_drop hinv HH.out] at hdp
          by_cases h60 : i < l2.length
          · have d1 : decide ((i : Int) < (l2.length : Int)) = true := by simp; omega
            have d2 : decide ((i : Int) < 60) = false := by simp; omega
            go_wp2_with (go_at_call 18; with_reducible refine hdp.mono ?_; rintro e w5 ⟨rfl, -, hb5, -⟩)
            go_ret
            exact ⟨rfl, hb5⟩
          · have d1 : decide ((i : Int) < (l2.length : Int)) = false := by simp; omega
            go_wp2_with (go_at_call 18; with_reducible refine hdp.mono ?_; rintro e w5 ⟨rfl, -, hb5, -⟩)
            go_ret
            exact ⟨rfl, hb5⟩
  · rw [he] at hu
    obtain ⟨r1, hr1⟩ : ∃ r1, (useL m L 7).1.1 = r1 := ⟨_, rfl⟩
    rw [hr1] at hu
    go_wp2_with (first | (go_at_call 11; with_reducible refine hu.mono ?_; rintro e w3 ⟨rfl, hc3, hb3, -⟩; have HC3 := Aside0.mk hc3; have HB3 := Aside0.mk hb3; clear hc3 hb3) | (go_at_call 15; with_reducible refine (Has_A _ _ _ _ 7 _ HC3.out hiu).mono ?_; rw [hx]; rintro e w4 ⟨rfl, hb4⟩))
    go_ret
    exact ⟨rfl, below_then HB3.out HB3.out.size hb4⟩
end Go.Proofs.Ytlmnagbfmkaglaa.PL
