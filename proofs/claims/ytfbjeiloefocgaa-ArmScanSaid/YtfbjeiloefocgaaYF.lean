import Derived.Test.YtfbjeiloefocgaaYC
import Derived.BigQuiet
/-! Contracts of the package arm: Fork. Of the document's arm: New, find, what it tells, Set, Fork. -/
namespace Go.Proofs.Ytfbjeiloefocgaa.CC
open Go.RowKit Go.Proofs.Ytfbjeiloefocgaa.Fl Go.Proofs.Ytfbjeiloefocgaa.PL Go.Proofs.Ytfbjeiloefocgaa.PG Go.Proofs.YtfbjeiloefocgaaW.PrintWords Go.Proofs.YtfbjeiloefocgaaW.PrintLast Go.Proofs.YtfbjeiloefocgaaW.PrintMore
attribute [local go_sem] Oper.semAt_some

set_option maxHeartbeats 2000000 in
set_option maxRecDepth 100000 in
theorem Clone_calls (A : Option Addr) (c : Nat) (l : List S77) (w : World) (hC : Kd.C k77 w A l.length l) (hn : l.length < 1000) :
    Calls Try.prog 50 #[.slice A l.length c] w fun e w' => (∃ v, e = .returned v ∧ Kd.R k77 77 w' w.heap.size (fun _ => True) v l) ∧ Below w.heap.size w w' := by
  have HC := Aside0.mk hC
  have HN := Aside0.mk hn
  have heq := Lib.run_eql_slice_nil (P := Try.prog) w 65 77 A l.length c 0 0 Try.underlying65
  clear hn
  cases A with
  | none =>
    have h0 : l = [] := by
      rcases l with _ | ⟨x, l⟩
      · rfl
      · obtain ⟨ad, h, _⟩ := hC.2.2 (by simp)
        cases h
    subst h0
    replace heq : (binOp .eql 65 (.slice none 0 c) (.slice none 0 0)).run Try.prog w = .ok (.bool true) w := heq
    clear hC
    go_enter Try.func50, Try.ntmps50
    go_wp2
    go_ret
    exact ⟨⟨_, rfl, Kd.R_nil _ _ _ _ _⟩, Below.refl _ _⟩
  | some ad =>
    replace heq : (binOp .eql 65 (.slice (some ad) l.length c) (.slice none 0 0)).run Try.prog w = .ok (.bool false) w := heq
    clear hC
    go_enter Try.func50, Try.ntmps50
    go_wp2_with (first | ((with_reducible refine gate_dst (N := 5) rfl ?_); refine Kd.R_lit k77 (w0 := w) w.heap.size 77 ?hg (N := 5) ?hd (xs := ([] : List S77)) (inner := []) (ok := fun _ => True) (okp := fun _ => False) ?hr (Reps.none _ _) (fun _ h => h.elim) trivial (Below.refl _ _) (Nat.le_refl _) (by decide) ?_; (case hd => rfl); (case hg => rfl); (case hr => first | (go_simp; done) | (go_simp; rfl)); intro v1 w1 ho1 hb1 hg_ hnew_; clear hg_ hnew_; obtain ⟨A1, c1, e1⟩ := Kd.R_slice ho1; subst e1) | ((with_reducible refine gate_builtin (b := .append) (xs := #[.tmp 5, .tmp 6]) rfl ?_); at_builtin; refine Kd.R_append_rows k77 (w0 := w) w.heap.size rfl (.tmp 5) (.tmp 6) 65 77 (.agg #[.int .i64 0, .int .i64 0]) 16 rfl Try.underlying65 info77 rfl (by decide) (by omega) _ ([] : List S77) l (some ad) l.length c (fun _ => True) (fun _ => False) rfl rfl ho1 (Kd.C_below HC.out hb1) (fun x cs h => by obtain rfl := k77_open h; exact k77_mkM _ _ _ x) (fun _ h => h.elim) (fun _ _ => trivial) hb1 hb1.size ?aL ?_; (case aL => have := HN.out; simp; omega); intro v2 w2 ho hb hg hat; have HO2 := Aside0.mk ho; have HB2 := Aside0.mk hb; clear hg hat ho hb))
    go_ret
    exact ⟨⟨_, rfl, by simpa using HO2.out⟩, HB2.out⟩
theorem Fork_nil (w : World) : Calls Try.prog 24 #[.pointer none] w fun e w' => e = .returned (.pointer none) ∧ w' = w := by
  go_enter Try.func24, Try.ntmps24
  go_wp2
  go_ret
  exact ⟨rfl, rfl⟩
theorem ForkD_nil (w : World) : Calls Try.prog 25 #[.pointer none] w fun e w' => e = .returned (.pointer none) ∧ w' = w := by
  go_enter Try.func25, Try.ntmps25
  go_wp2
  go_ret
  exact ⟨rfl, rfl⟩
theorem policy_calls (p : Int) (w : World) : Calls Try.prog 54 #[.int .u8 p] w fun e w' => e = .returned (.bool (decide (1 ≤ p ∧ p ≤ 4))) ∧ w' = w := by
  by_cases h1 : 1 ≤ p
  · have d1 : decide (1 ≤ p) = true := decide_eq_true h1
    have d2 : decide (1 ≤ p ∧ p ≤ 4) = decide (p ≤ 4) := by simp [h1]
    rw [d2]
    clear h1 d2
    go_enter Try.func54, Try.ntmps54
    go_wp2
    go_ret
    exact ⟨rfl, rfl⟩
  · have d1 : decide (1 ≤ p) = false := decide_eq_false h1
    have d2 : decide (1 ≤ p ∧ p ≤ 4) = false := by simp [h1]
    rw [d2]
    clear h1 d2
    go_enter Try.func54, Try.ntmps54
    go_wp2
    go_ret
    exact ⟨rfl, rfl⟩
theorem NewD_ok (p per : Int) (h : okN p per) (w : World) : Calls Try.prog 33 #[.int .u8 p, .int .i64 per] w fun e w' => (∃ g, e = .returned (.pointer (some ⟨g, 0, none⟩)) ∧ DS w.heap.size (fun k => w.heap.size ≤ k) w' g ⟨p, per, 0, false, 0⟩ []) ∧ Below w.heap.size w w' := by
  obtain ⟨h1, h2, h3, h4⟩ := h
  have hp := fun W => policy_calls p W
  rw [decide_eq_true (show 1 ≤ p ∧ p ≤ 4 from ⟨h1, h2⟩)] at hp
  have d3 : decide (per < 1) = false := by simp; omega
  have d4 : decide (64 < per) = false := by simp; omega
  go_enter Try.func33, Try.ntmps33
  go_wp2_with (first | (go_at_call 54; with_reducible refine (hp _).mono ?_; rintro e w' ⟨rfl, rfl⟩) | ((with_reducible refine gate_dst (N := 19) rfl ?_); refine box_event ?hg (N := 19) ?hd (cs := #[.int .u8 p, .int .i64 per, .int .i64 0, .bool false, .int .i64 0, .slice none 0 0]) (t := 70) ?hr ?_; (case hd => rfl); (case hg => rfl); (case hr => first | (go_simp; done) | (go_simp; rfl)); intro gb hgb w5 hbox hb; have HBgb := Aside0.mk hb; have HXgb := Aside0.mk hbox; have HIgb := Aside0.mk hgb; clear hb hbox hgb))
  go_ret
  have hgb := HIgb.out
  exact ⟨⟨gb, rfl, by omega, by omega, _, HXgb.out, Kd.R_nil _ _ _ _ _⟩, HBgb.out⟩
theorem NewD_no (p per : Int) (h : ¬ okN p per) (w : World) : Calls Try.prog 33 #[.int .u8 p, .int .i64 per] w fun e w' => e = .returned (.pointer none) ∧ Below w.heap.size w w' := by
  unfold okN at h
  have hp := fun W => policy_calls p W
  by_cases h1 : 1 ≤ p ∧ p ≤ 4
  · rw [decide_eq_true h1] at hp
    by_cases h3 : per < 1
    · have d3 : decide (per < 1) = true := by simpa using h3
      go_enter Try.func33, Try.ntmps33
      go_wp2_with (go_at_call 54; with_reducible refine (hp _).mono ?_; rintro e w' ⟨rfl, rfl⟩)
      go_ret
      exact ⟨rfl, Below.refl _ _⟩
    · have d3 : decide (per < 1) = false := by simpa using h3
      have d4 : decide (64 < per) = true := by simp; omega
      go_enter Try.func33, Try.ntmps33
      go_wp2_with (go_at_call 54; with_reducible refine (hp _).mono ?_; rintro e w' ⟨rfl, rfl⟩)
      go_ret
      exact ⟨rfl, Below.refl _ _⟩
  · rw [decide_eq_false h1] at hp
    go_enter Try.func33, Try.ntmps33
    go_wp2_with (go_at_call 54; with_reducible refine (hp _).mono ?_; rintro e w' ⟨rfl, rfl⟩)
    go_ret
    exact ⟨rfl, Below.refl _ _⟩
theorem findD_nil (b : Int) (w : World) : Calls Try.prog 55 #[.pointer none, .int .i64 b] w fun e w' => e = .returned (.int .i64 (-1)) ∧ Below w.heap.size w w' := by
  go_enter Try.func55, Try.ntmps55
  go_wp2
  go_loopg [5] 0 (fun kq v5 w' => Aside0 (Below w.heap.size w w'))
  case atStart => exact ⟨Below.refl _ _⟩
  case round =>
    have HB := hrel
    clear hrel
    go_wp2
    go_ret
    exact ⟨rfl, HB.out⟩
section
variable {B : Nat} {P : Nat → Prop} {w : World} {g : Nat} {s : Sc} {l : List S86}
set_option maxRecDepth 100000 in
set_option maxHeartbeats 1000000 in
theorem findD_calls (b : Int) (h : DS B P w g s l) (hn : l.length < 1000) : Calls Try.prog 55 #[.pointer (some ⟨g, 0, none⟩), .int .i64 b] w fun e w' => e = .returned (.int .i64 (ix86 l b)) ∧ Below w.heap.size w w' := by
  obtain ⟨-, -, v, hg, hR⟩ := h
  obtain ⟨A, c, rfl, -, hC⟩ := Kd.R_reads hR
  have HC := Aside0.mk hC
  have HN := Aside0.mk hn
  have c5 : w.cell? ⟨g, 5, none⟩ = some (.slice A l.length c) := (blk_cell hg 5).trans rfl
  have C5 := Aside0.mk c5
  clear hg hR hC hn c5
  go_enter Try.func55, Try.ntmps55
  go_wp2
  go_loopg [5] l.length (fun kq v5 w' => ∃ i : Nat, i + kq = l.length ∧ v5 = .int .i64 (i : Int) ∧ Aside0 (∀ x ∈ l.take i, (x.f0 == b) = false) ∧ Aside0 (Below w.heap.size w w'))
  case atStart => exact ⟨0, by simp, rfl, ⟨by simp⟩, ⟨Below.refl _ _⟩⟩
  case round =>
    obtain ⟨i, hi, rfl, hA, HB⟩ := hrel
    have c5 := pw_cell_below HB.out C5.out
    cases gk with
    | zero =>
      obtain rfl : i = l.length := by omega
      have hA' := hA.out
      rw [List.take_length] at hA'
      have d0 : decide ((l.length : Int) < (l.length : Int)) = false := by simp
      clear hA
      go_wp2
      go_ret
      exact ⟨by rw [ix86_miss hA']; rfl, HB.out⟩
    | succ k1 =>
      have hlt : i < l.length := by omega
      have c0 : decide ((i : Int) < (l.length : Int)) = true := by simp; omega
      have p123 : 0 ≤ (i : Int) := by omega
      have q123 : (i : Int) < (l.length : Int) := by omega
      obtain ⟨ad, e, hx0, hx1⟩ := at_T86 (Kd.C_below HC.out HB.out) (i : Int) p123 q123
      cases e
      have hrd : rd_T86 l (i : Int) = l[i] := by simp [rd_T86, List.getD_eq_getElem?_getD, hlt]
      rw [hrd] at hx0 hx1
      obtain ⟨x, hx⟩ : ∃ x, l[i] = x := ⟨_, rfl⟩
      rw [hx] at hx0 hx1
      rw [Int.toNat_natCast] at hx0 hx1
      have ewi : Aside0 (wrap64 ((i : Int) + 1) = ((i + 1 : Nat) : Int)) := ⟨by have := HN.out; unfold wrap64; omega⟩
      replace p123 := eq_true p123
      replace q123 := eq_true q123
      cases hb : (x.f0 == b) with
      | true =>
        go_wp2
        go_ret
        exact ⟨by rw [ix86_hit hlt (by rw [hx]; exact hb) hA.out]; rfl, HB.out⟩
      | false =>
        go_wp2
        go_roundg k1
        case rel => exact ⟨i + 1, by omega, by first | rfl | rw [ewi.out], ⟨fun y hy => by
          rw [List.take_succ_eq_append_getElem hlt, List.mem_append, List.mem_singleton, hx] at hy
          rcases hy with hy | rfl
          · exact hA.out y hy
          · exact hb⟩, HB⟩
        all_goals omega
theorem AtD_calls (h : DS B P w g s l) : Calls Try.prog 47 #[.pointer (some ⟨g, 0, none⟩)] w fun e w' => e = .returned (.int .i64 s.pos) ∧ w' = w := by
  obtain ⟨-, -, v, hg, -⟩ := h
  have c2 : w.cell? ⟨g, 2, none⟩ = some (.int .i64 s.pos) := (blk_cell hg 2).trans rfl
  clear hg
  go_enter Try.func47, Try.ntmps47
  go_wp2
  go_ret
  exact ⟨rfl, rfl⟩
theorem MovedD_calls (h : DS B P w g s l) : Calls Try.prog 48 #[.pointer (some ⟨g, 0, none⟩)] w fun e w' => e = .returned (.int .i64 s.mv) ∧ w' = w := by
  obtain ⟨-, -, v, hg, -⟩ := h
  have c2 : w.cell? ⟨g, 4, none⟩ = some (.int .i64 s.mv) := (blk_cell hg 4).trans rfl
  clear hg
  go_enter Try.func48, Try.ntmps48
  go_wp2
  go_ret
  exact ⟨rfl, rfl⟩
theorem UpD_calls (h : DS B P w g s l) : Calls Try.prog 49 #[.pointer (some ⟨g, 0, none⟩)] w fun e w' => e = .returned (.bool (!s.up)) ∧ w' = w := by
  obtain ⟨-, -, v, hg, -⟩ := h
  have c2 : w.cell? ⟨g, 3, none⟩ = some (.bool s.up) := (blk_cell hg 3).trans rfl
  clear hg
  go_enter Try.func49, Try.ntmps49
  go_wp2
  go_ret
  exact ⟨rfl, rfl⟩
def ageD (l : List S86) (b : Int) : Int := if ix86 l b < 0 then -1 else (l.getD (ix86 l b).toNat z86).f1
theorem AgeD_calls (b : Int) (h : DS B P w g s l) (hn : l.length < 1000) : Calls Try.prog 46 #[.pointer (some ⟨g, 0, none⟩), .int .i64 b] w fun e w' => e = .returned (.int .i64 (ageD l b)) ∧ Below w.heap.size w w' := by
  have hf := findD_calls b h hn
  unfold ageD
  rcases ix86_range l b with hm | ⟨h0, h1⟩
  · rw [hm, if_pos (by decide)]
    rw [hm] at hf
    go_enter Try.func46, Try.ntmps46
    go_wp2_with (go_at_call 55; with_reducible refine hf.mono ?_; rintro e w6 ⟨rfl, hb⟩)
    go_ret
    exact ⟨rfl, hb⟩
  · obtain ⟨n, hnn⟩ := Int.eq_ofNat_of_zero_le h0
    rw [hnn] at hf h1 ⊢
    have hlt : n < l.length := by omega
    obtain ⟨gr, cap, hg, hR, -⟩ := ds_open h (by omega)
    rw [if_neg (by omega), Int.toNat_natCast, getD86 _ _ hlt]
    have q1 := (ds_cells hR n hlt).1.2
    have c5 : w.cell? ⟨g, 5, none⟩ = some (.slice (some ⟨gr, 0, none⟩) l.length cap) := (blk_cell hg 5).trans rfl
    have d0 : decide ((n : Int) < 0) = false := by simp
    have p1 : (0 ≤ (n : Int)) = True := eq_true (by omega)
    have p2 : ((n : Int) < (l.length : Int)) = True := eq_true (by omega)
    clear hR hg h
    go_enter Try.func46, Try.ntmps46
    go_wp2_with (go_at_call 55; with_reducible refine hf.mono ?_; rintro e w6 ⟨rfl, hb⟩; have q2 := pw_cell_below hb q1; have c6 := pw_cell_below hb c5)
    go_ret
    exact ⟨rfl, hb⟩
set_option maxHeartbeats 2000000 in
theorem WaitingD_calls (h : DS B P w g s l) (hn : l.length < 1000) : Calls Try.prog 45 #[.pointer (some ⟨g, 0, none⟩)] w fun e w' => (∃ v, e = .returned v ∧ Kd.R (Kd.int .i64) 3 w' w.heap.size (fun _ => True) v (l.map (·.f0))) ∧ Below w.heap.size w w' := by
  obtain ⟨-, -, v, hg, hR⟩ := h
  obtain ⟨A, c, rfl, -, hC⟩ := Kd.R_reads hR
  have HC := Aside0.mk hC
  have HN := Aside0.mk hn
  have C5 : Aside0 (w.cell? ⟨g, 5, none⟩ = some (.slice A l.length c)) := ⟨(blk_cell hg 5).trans rfl⟩
  clear hg hR hC hn
  go_enter Try.func45, Try.ntmps45
  go_wp2
  go_loopg [3, 4] l.length (fun kq v3 v4 w' => ∃ i : Nat, i + kq = l.length ∧ v4 = .int .i64 (i : Int) ∧ Aside0 (Kd.R (Kd.int .i64) 3 w' w.heap.size (fun _ => True) v3 ((l.take i).map (·.f0))) ∧ Aside0 (Below w.heap.size w w'))
  case atStart => exact ⟨0, by omega, rfl, ⟨Kd.R_nil _ _ _ _ _⟩, ⟨Below.refl _ _⟩⟩
  case round =>
    obtain ⟨i, hi, rfl, hO, hB⟩ := hrel
    have c5 := pw_cell_below hB.out C5.out
    cases gk with
    | zero =>
      obtain rfl : i = l.length := by omega
      have c0 : decide ((l.length : Int) < (l.length : Int)) = false := by simp
      go_wp2
      go_ret
      have hO' := hO.out
      rw [List.take_length] at hO'
      exact ⟨⟨_, rfl, hO'⟩, hB.out⟩
    | succ k1 =>
      have hlt : i < l.length := by omega
      have c0 : decide ((i : Int) < (l.length : Int)) = true := by simp; omega
      have p123 : 0 ≤ (i : Int) := by omega
      have q123 : (i : Int) < (l.length : Int) := by omega
      obtain ⟨ad, e, hx0, hx1⟩ := at_T86 (Kd.C_below HC.out hB.out) (i : Int) p123 q123
      cases e
      have hrd : rd_T86 l (i : Int) = l[i] := by simp [rd_T86, List.getD_eq_getElem?_getD, hlt]
      rw [hrd] at hx0 hx1
      have e3 : (l.take (i + 1)).map (·.f0) = (l.take i).map (·.f0) ++ [l[i].f0] := by rw [List.take_succ_eq_append_getElem hlt, List.map_append]; rfl
      obtain ⟨xs, hxs⟩ : ∃ xs, (l.take i).map (·.f0) = xs := ⟨_, rfl⟩
      have el : xs.length = i := by rw [← hxs]; simp; omega
      have hO2 := hO.out
      rw [hxs] at hO2 e3
      have HO2 := Aside0.mk hO2
      have E3 := Aside0.mk e3
      have EL := Aside0.mk el
      clear e3 el hO hO2 hxs
      obtain ⟨x, hx⟩ : ∃ x, l[i] = x := ⟨_, rfl⟩
      rw [hx] at hx0 hx1 E3
      rw [Int.toNat_natCast] at hx0 hx1
      have ewi : Aside0 (wrap64 ((i : Int) + 1) = ((i + 1 : Nat) : Int)) := ⟨by have := HN.out; unfold wrap64; omega⟩
      replace p123 := eq_true p123
      replace q123 := eq_true q123
      go_wp2_with (first | ((with_reducible refine gate_builtin (b := .append) (xs := #[.tmp 18, .tmp 27]) rfl ?_); at_builtin; refine Kd.R_append (Kd.int .i64) (w0 := w) w.heap.size rfl (.tmp 18) (.tmp 27) 23 3 (.int .i64 0) 8 rfl Try.underlying23 info3 rfl (by decide) (by omega) _ xs x.f0 [.int .i64 x.f0] (fun _ => True) (fun _ => False) rfl rfl ?aP (fun _ hk => hk.elim) ?aF ?aO hB.out ?aS ?aL ?_; (case aP => exact rfl); (case aF => exact (fun _ _ => trivial)); (case aO => exact HO2.out); (case aS => exact hB.out.size); (case aL => have := EL.out; have := HN.out; omega); intro v1 w9 ho hb hg hat; have HO1 := Aside0.mk ho; have HB1 := Aside0.mk hb; clear ho hb hg hat))
      go_roundg k1
      case rel => exact ⟨i + 1, by omega, by first | rfl | rw [ewi.out], ⟨by rw [E3.out]; exact HO1.out⟩, HB1⟩
      all_goals omega
theorem AtD_nil (w : World) : Calls Try.prog 47 #[.pointer none] w fun e w' => e = .returned (.int .i64 0) ∧ w' = w := by
  go_enter Try.func47, Try.ntmps47
  go_wp2
  go_ret
  exact ⟨rfl, rfl⟩
end
theorem SetD_calls (g : Nat) (P : Nat → Prop) (s : Sc) (l : List S86) (p : Int) (w0 w : World) (hB : Below w0.heap.size w0 w) (h : DS w0.heap.size P w g s l) :
    Calls Try.prog 52 #[.pointer (some ⟨g, 0, none⟩), .int .u8 p] w fun e w' => e = .returned (.int .i64 (setA s p).1) ∧ DS w0.heap.size P w' g (setA s p).2 l ∧ Below w0.heap.size w0 w' ∧ Kept w w' P := by
  have HB := Aside0.mk hB
  have HS := Aside0.mk h
  unfold setA
  have hp0 := fun W => policy_calls p W
  obtain ⟨-, -, v, hg, -⟩ := h
  have c0 : w.cell? ⟨g, 0, none⟩ = some (.int .u8 s.p) := (blk_cell hg 0).trans rfl
  have f0 := blk_frozen hg 0
  clear hg hB
  by_cases hp : 1 ≤ p ∧ p ≤ 4
  · rw [if_pos hp]
    rw [decide_eq_true hp] at hp0
    go_enter Try.func52, Try.ntmps52
    go_wp2_with (go_at_call 54; with_reducible refine (hp0 _).mono ?_; rintro e w6 ⟨rfl, rfl⟩)
    go_ret
    obtain ⟨q1, q2⟩ := DS.setc HS.out 0 (.int .u8 p) { s with p := p } (fun _ => rfl)
    exact ⟨rfl, q1, HB.out.setCell (p := ⟨g, 0, none⟩) HS.out.base _, q2⟩
  · rw [if_neg hp]
    rw [decide_eq_false hp] at hp0
    go_enter Try.func52, Try.ntmps52
    go_wp2_with (go_at_call 54; with_reducible refine (hp0 _).mono ?_; rintro e w6 ⟨rfl, rfl⟩)
    go_ret
    exact ⟨rfl, HS.out, HB.out, Nat.le_refl _, fun _ _ _ => rfl⟩
theorem cellf {w : World} {g ty : Nat} {a0 a1 a2 a3 a4 v : Value} (h : w.heap[g]? = some (.cells #[a0, a1, a2, a3, a4, v] ty (0, 0))) : w.cell? ⟨g, 5, none⟩ = some v := (blk_cell h 5).trans rfl
set_option maxHeartbeats 4000000 in
set_option maxRecDepth 100000 in
theorem Fork_calls (B : Nat) (P : Nat → Prop) (g : Nat) (s : Sc) (l : List S77) (w : World) (h : AS B P w g s l) (hn : l.length < 1000) :
    Calls Try.prog 24 #[.pointer (some ⟨g, 0, none⟩)] w fun e w' => (∃ g', e = .returned (.pointer (some ⟨g', 0, none⟩)) ∧ AS w.heap.size (fun k => w.heap.size ≤ k) w' g' s l) ∧ Below w.heap.size w w' := by
  obtain ⟨-, -, v, hg, hR⟩ := h
  obtain ⟨A, c, rfl, -, hC⟩ := Kd.R_reads hR
  have HG := Aside0.mk hg
  have HC := Aside0.mk hC
  have HN := Aside0.mk hn
  have HR := Aside0.mk hR
  obtain ⟨⟨p, per, pos, up, mv⟩, hs⟩ : ∃ s', s = s' := ⟨_, rfl⟩
  subst hs
  have c0 : w.cell? ⟨g, 0, none⟩ = some (.int .u8 p) := (blk_cell hg 0).trans rfl
  have c1 : w.cell? ⟨g, 1, none⟩ = some (.int .i64 per) := (blk_cell hg 1).trans rfl
  have c2 : w.cell? ⟨g, 2, none⟩ = some (.int .i64 pos) := (blk_cell hg 2).trans rfl
  have c3 : w.cell? ⟨g, 3, none⟩ = some (.bool up) := (blk_cell hg 3).trans rfl
  have c4 : w.cell? ⟨g, 4, none⟩ = some (.int .i64 mv) := (blk_cell hg 4).trans rfl
  have c5 : w.cell? ⟨g, 5, none⟩ = some (.slice A l.length c) := (blk_cell hg 5).trans rfl
  clear hg hR hC
  go_enter Try.func24, Try.ntmps24
  go_upto_region 4 with (first | ((with_reducible refine gate_dst (N := 3) rfl ?_); refine box_event ?hg (N := 3) ?hd (cs := #[.int .u8 0, .int .i64 0, .int .i64 0, .bool false, .int .i64 0, .slice none 0 0]) (t := 67) ?hr ?_; (case hd => rfl); (case hg => rfl); (case hr => first | (go_simp; done) | (go_simp; rfl)); intro g2 hg2 w5 hbox hb; have e0 : w5.cell? ⟨g2, 0, none⟩ = some (.int .u8 0) := (blk_cell hbox 0).trans rfl; have e1 : w5.cell? ⟨g2, 1, none⟩ = some (.int .i64 0) := (blk_cell hbox 1).trans rfl; have e2 : w5.cell? ⟨g2, 2, none⟩ = some (.int .i64 0) := (blk_cell hbox 2).trans rfl; have e3 : w5.cell? ⟨g2, 3, none⟩ = some (.bool false) := (blk_cell hbox 3).trans rfl; have e4 : w5.cell? ⟨g2, 4, none⟩ = some (.int .i64 0) := (blk_cell hbox 4).trans rfl; have e5 : w5.cell? ⟨g2, 5, none⟩ = some (.slice none 0 0) := (blk_cell hbox 5).trans rfl; have f0 := blk_frozen hbox 0; have f1 := blk_frozen hbox 1; have f2 := blk_frozen hbox 2; have f3 := blk_frozen hbox 3; have f4 := blk_frozen hbox 4; have f5 := blk_frozen hbox 5; have HX := Aside0.mk hbox; have HI := Aside0.mk hg2; have HB := Aside0.mk hb; clear hbox hg2 hb))
  have hg2 : w.heap.size ≤ g2 := Nat.le_of_eq HI.out.symm
  have hx6 : ((((((w5.setCell ⟨g2, 0, none⟩ (.int .u8 p)).setCell ⟨g2, 1, none⟩ (.int .i64 per)).setCell ⟨g2, 2, none⟩ (.int .i64 pos)).setCell ⟨g2, 3, none⟩ (.bool up)).setCell ⟨g2, 4, none⟩ (.int .i64 mv)).setCell ⟨g2, 5, none⟩ (.slice A l.length c)).heap[g2]? = some (.cells #[.int .u8 p, .int .i64 per, .int .i64 pos, .bool up, .int .i64 mv, .slice A l.length c] 67 (0, 0)) := blk_put (blk_put (blk_put (blk_put (blk_put (blk_put HX.out 0 _ rfl) 1 _ rfl) 2 _ rfl) 3 _ rfl) 4 _ rfl) 5 _ rfl
  have hb6 : Below w.heap.size w ((((((w5.setCell ⟨g2, 0, none⟩ (.int .u8 p)).setCell ⟨g2, 1, none⟩ (.int .i64 per)).setCell ⟨g2, 2, none⟩ (.int .i64 pos)).setCell ⟨g2, 3, none⟩ (.bool up)).setCell ⟨g2, 4, none⟩ (.int .i64 mv)).setCell ⟨g2, 5, none⟩ (.slice A l.length c)) := (((((HB.out.setCell (p := ⟨g2, 0, none⟩) hg2 _).setCell (p := ⟨g2, 1, none⟩) hg2 _).setCell (p := ⟨g2, 2, none⟩) hg2 _).setCell (p := ⟨g2, 3, none⟩) hg2 _).setCell (p := ⟨g2, 4, none⟩) hg2 _).setCell (p := ⟨g2, 5, none⟩) hg2 _
  clear e0 e1 e2 e3 e4 e5 f0 f1 f2 f3 f4 f5 c0 c1 c2 c3 c4
  generalize ((((((w5.setCell ⟨g2, 0, none⟩ (.int .u8 p)).setCell ⟨g2, 1, none⟩ (.int .i64 per)).setCell ⟨g2, 2, none⟩ (.int .i64 pos)).setCell ⟨g2, 3, none⟩ (.bool up)).setCell ⟨g2, 4, none⟩ (.int .i64 mv)).setCell ⟨g2, 5, none⟩ (.slice A l.length c)) = wa at *
  have c6 := pw_cell_below hb6 c5
  have HCa := Aside0.mk (Kd.C_below HC.out hb6)
  have HX6 := Aside0.mk hx6
  have HB6 := Aside0.mk hb6
  clear c5 hx6 hb6
  go_wp2_with (first | (go_at_call 50; with_reducible refine (Clone_calls A c l wa HCa.out HN.out).mono ?_; rintro e w6 ⟨⟨v2, rfl, ho6⟩, hb6⟩; obtain ⟨A2, c2, e2⟩ := Kd.R_slice ho6; subst e2; have HO2 := Aside0.mk ho6; have HB2 := Aside0.mk hb6; clear ho6 hb6; have e5 := cellf (blk_below HX6.out HB2.out); have f5 := blk_frozen (blk_below HX6.out HB2.out) 5))
  go_ret
  obtain ⟨q1, q2, -⟩ := AS.new (P := fun k => w.heap.size ≤ k) (s := ⟨p, per, pos, up, mv⟩) HB6.out hg2 hg2 HX6.out HB2.out HO2.out
  exact ⟨⟨g2, rfl, q1.mono (fun k hk => hk.elim (fun h => h) (fun h => Nat.le_trans HB6.out.size h))⟩, q2⟩
set_option maxHeartbeats 4000000 in
set_option maxRecDepth 100000 in
theorem ForkD_calls (B : Nat) (P : Nat → Prop) (g : Nat) (s : Sc) (l : List S86) (w : World) (h : DS B P w g s l) (hn : l.length < 1000) :
    Calls Try.prog 25 #[.pointer (some ⟨g, 0, none⟩)] w fun e w' => (∃ g', e = .returned (.pointer (some ⟨g', 0, none⟩)) ∧ DS w.heap.size (fun k => w.heap.size ≤ k) w' g' s l) ∧ Below w.heap.size w w' := by
  obtain ⟨-, -, v, hg, hR⟩ := h
  obtain ⟨A, c, rfl, -, hC⟩ := Kd.R_reads hR
  have HG := Aside0.mk hg
  have HC := Aside0.mk hC
  have HN := Aside0.mk hn
  have HR := Aside0.mk hR
  obtain ⟨⟨p, per, pos, up, mv⟩, hs⟩ : ∃ s', s = s' := ⟨_, rfl⟩
  subst hs
  have c0 : w.cell? ⟨g, 0, none⟩ = some (.int .u8 p) := (blk_cell hg 0).trans rfl
  have c1 : w.cell? ⟨g, 1, none⟩ = some (.int .i64 per) := (blk_cell hg 1).trans rfl
  have c2 : w.cell? ⟨g, 2, none⟩ = some (.int .i64 pos) := (blk_cell hg 2).trans rfl
  have c3 : w.cell? ⟨g, 3, none⟩ = some (.bool up) := (blk_cell hg 3).trans rfl
  have c4 : w.cell? ⟨g, 4, none⟩ = some (.int .i64 mv) := (blk_cell hg 4).trans rfl
  have c5 : w.cell? ⟨g, 5, none⟩ = some (.slice A l.length c) := (blk_cell hg 5).trans rfl
  clear hg hR hC
  go_enter Try.func25, Try.ntmps25
  go_upto_region 4 with (first | ((with_reducible refine gate_dst (N := 3) rfl ?_); refine box_event ?hg (N := 3) ?hd (cs := #[.int .u8 0, .int .i64 0, .int .i64 0, .bool false, .int .i64 0, .slice none 0 0]) (t := 70) ?hr ?_; (case hd => rfl); (case hg => rfl); (case hr => first | (go_simp; done) | (go_simp; rfl)); intro g2 hg2 w5 hbox hb; have e0 : w5.cell? ⟨g2, 0, none⟩ = some (.int .u8 0) := (blk_cell hbox 0).trans rfl; have e1 : w5.cell? ⟨g2, 1, none⟩ = some (.int .i64 0) := (blk_cell hbox 1).trans rfl; have e2 : w5.cell? ⟨g2, 2, none⟩ = some (.int .i64 0) := (blk_cell hbox 2).trans rfl; have e3 : w5.cell? ⟨g2, 3, none⟩ = some (.bool false) := (blk_cell hbox 3).trans rfl; have e4 : w5.cell? ⟨g2, 4, none⟩ = some (.int .i64 0) := (blk_cell hbox 4).trans rfl; have e5 : w5.cell? ⟨g2, 5, none⟩ = some (.slice none 0 0) := (blk_cell hbox 5).trans rfl; have f0 := blk_frozen hbox 0; have f1 := blk_frozen hbox 1; have f2 := blk_frozen hbox 2; have f3 := blk_frozen hbox 3; have f4 := blk_frozen hbox 4; have f5 := blk_frozen hbox 5; have HX := Aside0.mk hbox; have HI := Aside0.mk hg2; have HB := Aside0.mk hb; clear hbox hg2 hb))
  have hg2 : w.heap.size ≤ g2 := Nat.le_of_eq HI.out.symm
  have hx6 : ((((((w5.setCell ⟨g2, 0, none⟩ (.int .u8 p)).setCell ⟨g2, 1, none⟩ (.int .i64 per)).setCell ⟨g2, 2, none⟩ (.int .i64 pos)).setCell ⟨g2, 3, none⟩ (.bool up)).setCell ⟨g2, 4, none⟩ (.int .i64 mv)).setCell ⟨g2, 5, none⟩ (.slice A l.length c)).heap[g2]? = some (.cells #[.int .u8 p, .int .i64 per, .int .i64 pos, .bool up, .int .i64 mv, .slice A l.length c] 70 (0, 0)) := blk_put (blk_put (blk_put (blk_put (blk_put (blk_put HX.out 0 _ rfl) 1 _ rfl) 2 _ rfl) 3 _ rfl) 4 _ rfl) 5 _ rfl
  have hb6 : Below w.heap.size w ((((((w5.setCell ⟨g2, 0, none⟩ (.int .u8 p)).setCell ⟨g2, 1, none⟩ (.int .i64 per)).setCell ⟨g2, 2, none⟩ (.int .i64 pos)).setCell ⟨g2, 3, none⟩ (.bool up)).setCell ⟨g2, 4, none⟩ (.int .i64 mv)).setCell ⟨g2, 5, none⟩ (.slice A l.length c)) := (((((HB.out.setCell (p := ⟨g2, 0, none⟩) hg2 _).setCell (p := ⟨g2, 1, none⟩) hg2 _).setCell (p := ⟨g2, 2, none⟩) hg2 _).setCell (p := ⟨g2, 3, none⟩) hg2 _).setCell (p := ⟨g2, 4, none⟩) hg2 _).setCell (p := ⟨g2, 5, none⟩) hg2 _
  clear e0 e1 e2 e3 e4 e5 f0 f1 f2 f3 f4 f5 c0 c1 c2 c3 c4
  generalize ((((((w5.setCell ⟨g2, 0, none⟩ (.int .u8 p)).setCell ⟨g2, 1, none⟩ (.int .i64 per)).setCell ⟨g2, 2, none⟩ (.int .i64 pos)).setCell ⟨g2, 3, none⟩ (.bool up)).setCell ⟨g2, 4, none⟩ (.int .i64 mv)).setCell ⟨g2, 5, none⟩ (.slice A l.length c)) = wa at *
  have c6 := pw_cell_below hb6 c5
  have HCa := Aside0.mk (Kd.C_below HC.out hb6)
  have HX6 := Aside0.mk hx6
  have HB6 := Aside0.mk hb6
  clear c5 hx6 hb6
  go_wp2_with (first | ((with_reducible refine gate_dst (N := 9) rfl ?_); refine Kd.R_lit k86 (w0 := wa) wa.heap.size 86 ?hg (N := 9) ?hd (xs := ([] : List S86)) (inner := []) (ok := fun _ => True) (okp := fun _ => False) ?hr (Reps.none _ _) (fun _ h => h.elim) trivial (Below.refl _ _) (Nat.le_refl _) (by decide) ?_; (case hd => rfl); (case hg => rfl); (case hr => first | (go_simp; done) | (go_simp; rfl)); intro v1 w1 ho1 hb1 hg_ hnew_; clear hg_ hnew_; obtain ⟨A1, c1, e1⟩ := Kd.R_slice ho1; subst e1; have c7 := pw_cell_below hb1 c6) | ((with_reducible refine gate_builtin (b := .append) (xs := #[.tmp 9, .tmp 13]) rfl ?_); at_builtin; refine Kd.R_append_rows k86 (w0 := wa) wa.heap.size rfl (.tmp 9) (.tmp 13) 68 86 (.agg #[.int .i64 0, .int .i64 0]) 16 rfl Try.underlying68 info86 rfl (by decide) (by omega) _ ([] : List S86) l A l.length c (fun _ => True) (fun _ => False) rfl rfl ho1 (Kd.C_below HCa.out hb1) (fun x cs h => by obtain rfl := k86_open h; exact k86_mkM _ _ _ x) (fun _ h => h.elim) (fun _ _ => trivial) hb1 hb1.size ?aL ?_; (case aL => have := HN.out; simp; omega); intro v2 w2 ho hb hg hat; have HO2 := Aside0.mk ho; have HB2 := Aside0.mk hb; rw [List.nil_append] at HO2; obtain ⟨A2, c2, e2⟩ := Kd.R_slice HO2.out; subst e2; clear hg hat ho hb; have e5 := cellf (blk_below HX6.out HB2.out); have f5 := blk_frozen (blk_below HX6.out HB2.out) 5))
  go_ret
  obtain ⟨q1, q2, -⟩ := DS.new (P := fun k => w.heap.size ≤ k) (s := ⟨p, per, pos, up, mv⟩) HB6.out hg2 hg2 HX6.out HB2.out HO2.out
  exact ⟨⟨g2, rfl, q1.mono (fun k hk => hk.elim (fun h => h) (fun h => Nat.le_trans HB6.out.size h))⟩, q2⟩
end Go.Proofs.Ytfbjeiloefocgaa.CC
/-! Contracts of the document's arm: way, Ask, Cancel. -/
namespace Go.Proofs.Ytfbjeiloefocgaa.CC
open Go.RowKit Go.Proofs.Ytfbjeiloefocgaa.Fl Go.Proofs.Ytfbjeiloefocgaa.PL Go.Proofs.Ytfbjeiloefocgaa.PG Go.Proofs.YtfbjeiloefocgaaW.PrintWords Go.Proofs.YtfbjeiloefocgaaW.PrintLast Go.Proofs.YtfbjeiloefocgaaW.PrintMore
attribute [local go_sem] Oper.semAt_some

attribute [local go_sem] run_store_float
theorem w64 {n : Int} (h1 : -9223372036854775808 ≤ n) (h2 : n < 9223372036854775808) : wrap64 n = n := by unfold wrap64; omega
theorem refAt_is {b p : Int} (hb : Bl b) (hp : Tr p) : selvedgeref01_At.f b p = some (X b p, Y b p, 0) := by
  obtain ⟨n, rfl⟩ := Int.eq_ofNat_of_zero_le hb.1
  obtain ⟨q, rfl⟩ := Int.eq_ofNat_of_zero_le (show 0 ≤ p by have := hp.1; omega)
  have h1 := hb.2
  have h2 := hp.1
  have h3 := hp.2
  unfold selvedgeref01_At.f
  rw [if_neg (by omega), if_neg (by omega), if_neg (by omega), if_neg (by omega), if_neg (by omega)]
  have e1 : wrap64 (Int.tdiv (n : Int) (q : Int)) = ((n / q : Nat) : Int) := by
    rw [Int.tdiv_eq_ediv_of_nonneg (by omega), ← Int.natCast_ediv]
    have := Nat.div_le_self n q
    generalize n / q = m at this ⊢
    rw [w64 (by omega) (by omega)]
  have e2 : Int.tmod (n : Int) (q : Int) = ((n % q : Nat) : Int) := by
    rw [Int.tmod_eq_emod_of_nonneg (by omega), ← Int.natCast_emod]
  rw [e1, e2, F_eq, F_eq]
  rfl
theorem plain_is {b p : Int} (hb : Bl b) (hp : Tr p) : selvedgeref01_plain.f (X b p) (Y b p) = some (((b.toNat / p.toNat : Nat) : Int), ((b.toNat % p.toNat : Nat) : Int), true) := by
  have h1 := parts hb hp
  have e1 : selvedgeref01_whole.f (X b p) = some (((b.toNat / p.toNat : Nat) : Int), true) := by
    unfold selvedgeref01_whole.f X
    rw [unF_F _ _ h1.1 (by omega)]
    rfl
  have e2 : selvedgeref01_whole.f (Y b p) = some (((b.toNat % p.toNat : Nat) : Int), true) := by
    unfold selvedgeref01_whole.f Y
    rw [unF_F _ _ (show b.toNat % p.toNat < 1024 by omega) (by omega)]
    rfl
  unfold selvedgeref01_plain.f
  rw [e1, Option.bind_some, e2, Option.bind_some, if_pos rfl]
theorem apart_is (x y : Nat) (hx : x < 5000) (hy : y < 5000) : selvedgeref01_apart.f (x : Int) (y : Int) = some (((x : Int) - y).natAbs : Int) := by
  unfold selvedgeref01_apart.f
  by_cases h : (x : Int) < y
  · rw [if_pos h, w64 (by omega) (by omega)]
    congr 1; omega
  · rw [if_neg h, w64 (by omega) (by omega)]
    congr 1; omega
theorem refWay_is {a b p : Int} (ha : Bl a) (hb : Bl b) (hp : Tr p) : selvedgeref01_Way.f 1 (X a p) (Y a p) (X b p) (Y b p) = some (wayI a b p) := by
  have h1 := parts ha hp
  have h2 := parts hb hp
  unfold selvedgeref01_Way.f
  rw [plain_is ha hp, Option.bind_some, plain_is hb hp, Option.bind_some, if_pos rfl]
  simp only [selvedgeref01_Way.j0]
  rw [if_neg (by decide), apart_is _ _ (by omega) (by omega), Option.bind_some, apart_is _ _ (by omega) (by omega), Option.bind_some]
  unfold wayI apartN
  generalize a.toNat / p.toNat = m1 at h1 ⊢
  generalize a.toNat % p.toNat = m2 at h1 ⊢
  generalize b.toNat / p.toNat = m3 at h2 ⊢
  generalize b.toNat % p.toNat = m4 at h2 ⊢
  rw [w64 (by omega) (by omega)]
  congr 1
theorem refAt_calls {b p : Int} (hb : Bl b) (hp : Tr p) (w : World) : Calls Try.prog 72 #[.int .i64 b, .int .i64 p] w fun e w' => e = .returned (.tuple #[.agg #[.float .f64 (X b p), .float .f64 (Y b p)], .int .i64 0]) ∧ Below w.heap.size w w' := selvedgeref01_At.calls b p _ _ _ w (refAt_is hb hp)
theorem refWay_calls {a b p : Int} (ha : Bl a) (hb : Bl b) (hp : Tr p) (w : World) : Calls Try.prog 73 #[.agg #[.float .f64 (X a p), .float .f64 (Y a p)], .agg #[.float .f64 (X b p), .float .f64 (Y b p)]] w fun e w' => e = .returned (.int .i64 (wayI a b p)) ∧ Below w.heap.size w w' := selvedgeref01_Way.calls 1 _ _ _ _ _ w (refWay_is ha hb hp)
def wayD_T1 : Bool × List (List Nat × List Nat) := (true, [([], []), ([0], [0]), ([1], [1]), ([2], [2]), ([], []), ([4], [4]), ([5], [5]), ([6], [6]), ([3, 7], [3, 7]), ([8], [8]), ([9], [9]), ([9], [9]), ([], []), ([12, 10, 8, 0, 1, 2, 3, 4, 5, 6, 7, 8, 9, 10, 12], [10, 12]), ([11, 13, 0, 1, 2, 3, 4, 5, 6, 7, 8, 9, 10, 11, 12, 13], [11])])
def wayD_B1 : List Nat := [0, 1, 3, 7, 0, 16, 48, 112, 255, 511, 1023, 1023, 0, 6143, 16383]
theorem wayD_tab1 : rtab .any (opsOf Try.f57 1) = wayD_T1 := by kernel_rfl
theorem wayD_bits1 : waitsOk wayD_T1.2 wayD_B1 = true := by kernel_rfl
set_option maxRecDepth 100000 in
set_option maxHeartbeats 2000000 in
theorem wayD_calls {B : Nat} {P : Nat → Prop} {w : World} {g : Nat} {s : Sc} {l : List S86} (b : Int) (h : DS B P w g s l) (hpos : Bl s.pos) (hper : Tr s.per) (hb : Bl b) :
    Calls Try.prog 57 #[.pointer (some ⟨g, 0, none⟩), .int .i64 b] w fun e w' => e = .returned (.int .i64 (wayI s.pos b s.per)) ∧ Below w.heap.size w w' := by
  obtain ⟨-, -, v, hg, -⟩ := h
  have c2 : w.cell? ⟨g, 2, none⟩ = some (.int .i64 s.pos) := (blk_cell hg 2).trans rfl
  have c1 : w.cell? ⟨g, 1, none⟩ = some (.int .i64 s.per) := (blk_cell hg 1).trans rfl
  clear hg
  go_enter Try.func57, Try.ntmps57
  go_upto_region 1 with (fail)
  refine start_ (n := 15) (S := fun w' => w'.cell? ⟨g, 2, none⟩ = some (.int .i64 s.pos) ∧ w'.cell? ⟨g, 1, none⟩ = some (.int .i64 s.per)) (ds := [13]) #[false, false, false, false, false, false, false, false, false, false, false, false, false, false, false] (by kernel_rfl) rfl rfl ⟨c2, c1⟩ (fun hHeld => ?_); refine with_tabW wayD_tab1 wayD_bits1 (fun HT_ HW_ => ?_)
  refine pure_ (i := 0) (N := some 10) (v := ?_) (a' := ?_) #[true, false, false, false, false, false, false, false, false, false, false, false, false, false, false] rfl rfl (any_of HT_.out (by kernel_rfl)) (fun _ _ _ h => h) (Or.inl ⟨by rfl, ?_⟩) ?_ ?_
  rotate_left
  · intro w'
    go_simp
    with_reducible rfl
  rotate_left
  · simp only [Act.put, List.setIfInBounds_toArray, List.set_cons_zero, List.set_cons_succ]
    rfl
  refine pure_ (i := 1) (N := some 11) (v := ?_) (a' := ?_) #[true, true, false, false, false, false, false, false, false, false, false, false, false, false, false] rfl rfl (any_of HT_.out (by kernel_rfl)) (fun _ _ _ h => h) (Or.inl ⟨by rfl, ?_⟩) ?_ ?_
  rotate_left
  · intro w'
    go_simp
    with_reducible rfl
  rotate_left
  · simp only [Act.put, List.setIfInBounds_toArray, List.set_cons_zero, List.set_cons_succ]
    rfl
  refine pure_ (i := 2) (N := some 12) (v := ?_) (a' := ?_) #[true, true, true, false, false, false, false, false, false, false, false, false, false, false, false] rfl rfl (any_of HT_.out (by kernel_rfl)) (fun _ _ _ h => h) (Or.inl ⟨by rfl, ?_⟩) ?_ ?_
  rotate_left
  · intro w'
    go_simp
    with_reducible rfl
  rotate_left
  · simp only [Act.put, List.setIfInBounds_toArray, List.set_cons_zero, List.set_cons_succ]
    rfl
  refine take_ (i := 3) (N := some 13) (v := ?_) (a' := ?_) #[true, true, true, true, false, false, false, false, false, false, false, false, false, false, false] rfl rfl (take_ofW HT_.out HW_.out (by kernel_rfl)) (fun _ _ _ h => h) (Or.inl ⟨by rfl, ?_⟩) hHeld ?_ ?_
  rotate_left
  · rintro w' ⟨s0, s1⟩
    go_simp
    with_reducible rfl
  rotate_left
  · simp only [Act.put, List.setIfInBounds_toArray, List.set_cons_zero, List.set_cons_succ]
    rfl
  refine pure_ (i := 4) (N := some 14) (v := ?_) (a' := ?_) #[true, true, true, true, true, false, false, false, false, false, false, false, false, false, false] rfl rfl (any_of HT_.out (by kernel_rfl)) (fun _ _ _ h => h) (Or.inl ⟨by rfl, ?_⟩) ?_ ?_
  rotate_left
  · intro w'
    go_simp
    with_reducible rfl
  rotate_left
  · simp only [Act.put, List.setIfInBounds_toArray, List.set_cons_zero, List.set_cons_succ]
    rfl
  refine pure_ (i := 5) (N := some 15) (v := ?_) (a' := ?_) #[true, true, true, true, true, true, false, false, false, false, false, false, false, false, false] rfl rfl (any_of HT_.out (by kernel_rfl)) (fun _ _ _ h => h) (Or.inl ⟨by rfl, ?_⟩) ?_ ?_
  rotate_left
  · intro w'
    go_simp
    with_reducible rfl
  rotate_left
  · simp only [Act.put, List.setIfInBounds_toArray, List.set_cons_zero, List.set_cons_succ]
    rfl
  refine pure_ (i := 6) (N := some 16) (v := ?_) (a' := ?_) #[true, true, true, true, true, true, true, false, false, false, false, false, false, false, false] rfl rfl (any_of HT_.out (by kernel_rfl)) (fun _ _ _ h => h) (Or.inl ⟨by rfl, ?_⟩) ?_ ?_
  rotate_left
  · intro w'
    go_simp
    with_reducible rfl
  rotate_left
  · simp only [Act.put, List.setIfInBounds_toArray, List.set_cons_zero, List.set_cons_succ]
    rfl
  refine take_ (i := 7) (N := some 17) (v := ?_) (a' := ?_) #[true, true, true, true, true, true, true, true, false, false, false, false, false, false, false] rfl rfl (take_ofW HT_.out HW_.out (by kernel_rfl)) (fun _ _ _ h => h) (Or.inl ⟨by rfl, ?_⟩) hHeld ?_ ?_
  rotate_left
  · rintro w' ⟨s0, s1⟩
    go_simp
    with_reducible rfl
  rotate_left
  · simp only [Act.put, List.setIfInBounds_toArray, List.set_cons_zero, List.set_cons_succ]
    rfl
  refine two_ (i := 8) (j := 12) (Ni := some 18) (Nj := some 5) #[true, true, true, true, true, true, true, true, true, false, false, false, false, false, false] #[true, true, true, true, true, true, true, true, false, false, false, false, true, false, false] rfl rfl rfl rfl (two_of HT_.out (by kernel_rfl)) (by decide) (by decide) (fun K hK => ?_) (fun K hK => ?_)
  · refine goes_ Try.func72 (by kernel_rfl) rfl #[.int .i64 s.pos, .int .i64 s.per] (by rfl) rfl rfl (by (try simp only [List.map_toArray, List.map_cons, List.map_nil]); rfl) ?_
    with_reducible refine (refAt_calls hpos hper _).mono ?_
    rintro e w2 ⟨rfl, hb2⟩
    have HB2 : Aside0 (Below w.heap.size w w2) := ⟨below_step (below_drew (Below.refl _ _)) hb2⟩
    refine ⟨_, rfl, ?_⟩
    clear hHeld
    refine hK.out _ _ ⟨pw_cell_below HB2.out c2, pw_cell_below HB2.out c1⟩ (fun hHeld => ?_)
    clear hK K
    refine norm_ (a' := ?_) ?_ ?_
    rotate_left
    · show Act.put _ (some 18) _ = _
      simp only [Act.put, List.setIfInBounds_toArray, List.set_cons_zero, List.set_cons_succ]
      rfl
    refine pure_ (i := 9) (N := some 9) (v := ?_) (a' := ?_) #[true, true, true, true, true, true, true, true, true, true, false, false, false, false, false] rfl rfl (any_of HT_.out (by kernel_rfl)) (fun _ _ _ h => h) (Or.inl ⟨by rfl, ?_⟩) ?_ ?_
    rotate_left
    · intro w'
      go_simp
      with_reducible rfl
    rotate_left
    · simp only [Act.put, List.setIfInBounds_toArray, List.set_cons_zero, List.set_cons_succ]
      rfl
    refine pure_ (i := 10) (N := some 19) (v := ?_) (a' := ?_) #[true, true, true, true, true, true, true, true, true, true, true, false, false, false, false] rfl rfl (any_of HT_.out (by kernel_rfl)) (fun _ _ _ h => h) (Or.inl ⟨by rfl, ?_⟩) ?_ ?_
    rotate_left
    · intro w'
      go_simp
      with_reducible rfl
    rotate_left
    · simp only [Act.put, List.setIfInBounds_toArray, List.set_cons_zero, List.set_cons_succ]
      rfl
    refine pure_ (i := 11) (N := some 20) (v := ?_) (a' := ?_) #[true, true, true, true, true, true, true, true, true, true, true, true, false, false, false] rfl rfl (any_of HT_.out (by kernel_rfl)) (fun _ _ _ h => h) (Or.inl ⟨by rfl, ?_⟩) ?_ ?_
    rotate_left
    · intro w'
      go_simp
      with_reducible rfl
    rotate_left
    · simp only [Act.put, List.setIfInBounds_toArray, List.set_cons_zero, List.set_cons_succ]
      rfl
    refine one_ (i := 12) (N := some 5) #[true, true, true, true, true, true, true, true, true, true, true, true, true, false, false] rfl rfl (one_of HT_.out (by kernel_rfl)) (by decide) (fun K hK => ?_)
    refine event_step (v := .pointer (some ⟨w2.heap.size, 0, none⟩)) (w1 := (w2.alloc (.cells #[.float .f64 0, .float .f64 0] 96))) (by rfl) (by first | (go_simp; done) | (go_simp; rfl)) ?_
    have hx3 : (w2.alloc (.cells #[.float .f64 0, .float .f64 0] 96)).heap[w2.heap.size]? = some (.cells #[.float .f64 0, .float .f64 0] 96 (0, 0)) := blk_new w2 _
    have hb3 : Below w.heap.size w (w2.alloc (.cells #[.float .f64 0, .float .f64 0] 96)) := below_alloc HB2.out _
    clear hHeld
    have hgg : w.heap.size ≤ w2.heap.size := HB2.out.size
    generalize w2.alloc (.cells #[.float .f64 0, .float .f64 0] 96) = w3 at *
    generalize hgs : w2.heap.size = g2 at *
    have HX3 := Aside0.mk hx3
    have HB3 := Aside0.mk hb3
    clear hx3 hb3 hgs
    have z0 : w3.cell? ⟨g2, 0, none⟩ = some (.float .f64 0) := (blk_cell HX3.out 0).trans rfl
    have z1 : w3.cell? ⟨g2, 1, none⟩ = some (.float .f64 0) := (blk_cell HX3.out 1).trans rfl
    have y0 := blk_frozen HX3.out 0
    have y1 := blk_frozen HX3.out 1
    refine hK.out _ _ ⟨pw_cell_below HB3.out c2, pw_cell_below HB3.out c1⟩ (fun hHeld => ?_)
    clear hK K
    refine norm_ (a' := ?_) ?_ ?_
    rotate_left
    · show Act.put _ (some 5) _ = _
      simp only [Act.put, List.setIfInBounds_toArray, List.set_cons_zero, List.set_cons_succ]
      rfl
    refine last_ (i := 13) (N := none) #[true, true, true, true, true, true, true, true, true, true, true, true, true, true, false] rfl rfl (one_of HT_.out (by kernel_rfl)) (by decide) (fun K hK => ?_)
    refine skip_ (w1 := ?_) (by rfl) rfl ?_ ?_
    rotate_left
    · go_simp
      rfl
    refine hK.out _ _ ?_
    clear hK K
    refine pure_ (i := 14) (N := some 6) (v := ?_) (a' := ?_) #[true, true, true, true, true, true, true, true, true, true, true, true, true, true, true] rfl rfl (any_of HT_.out (by kernel_rfl)) (fun _ _ _ h => h) (Or.inl ⟨by rfl, ?_⟩) ?_ ?_
    rotate_left
    · intro w'
      go_simp
      with_reducible rfl
    rotate_left
    · simp only [Act.put, List.setIfInBounds_toArray, List.set_cons_zero, List.set_cons_succ]
      rfl
    refine done_ (done_of HT_.out (by kernel_rfl)) ?_
    have hx4 : ((w3.setCell ⟨g2, 0, none⟩ (.float .f64 (X s.pos s.per))).setCell ⟨g2, 1, none⟩ (.float .f64 (Y s.pos s.per))).heap[g2]? = some (.cells #[.float .f64 (X s.pos s.per), .float .f64 (Y s.pos s.per)] 96 (0, 0)) := blk_put (blk_put HX3.out 0 _ rfl) 1 _ rfl
    have hb4 : Below w.heap.size w ((w3.setCell ⟨g2, 0, none⟩ (.float .f64 (X s.pos s.per))).setCell ⟨g2, 1, none⟩ (.float .f64 (Y s.pos s.per))) := (HB3.out.setCell (p := ⟨g2, 0, none⟩) hgg _).setCell (p := ⟨g2, 1, none⟩) hgg _
    clear z0 z1 y0 y1
    generalize ((w3.setCell ⟨g2, 0, none⟩ (.float .f64 (X s.pos s.per))).setCell ⟨g2, 1, none⟩ (.float .f64 (Y s.pos s.per))) = w4 at *
    have c3 := pw_cell_below hb4 c1
    have HX4 := Aside0.mk hx4
    have HB4 := Aside0.mk hb4
    clear hx4 hb4 hHeld c1 c2 HX3 HB3
    go_upto_region 3 with (first | (go_at_call 72; with_reducible refine (refAt_calls hb hper _).mono ?_; rintro e w5 ⟨rfl, hb5⟩; have HX5 := Aside0.mk (blk_below HX4.out hb5); have HB5 := Aside0.mk (below_step HB4.out hb5); clear hb5) | ((with_reducible refine gate_dst (N := 7) rfl ?_); refine box_event ?hg (N := 7) ?hd (cs := #[.float .f64 0, .float .f64 0]) (t := 96) ?hr ?_; (case hd => rfl); (case hg => rfl); (case hr => first | (go_simp; done) | (go_simp; rfl)); intro g7 hg7 w7 hbox hb7; have z0 : w7.cell? ⟨g7, 0, none⟩ = some (.float .f64 0) := (blk_cell hbox 0).trans rfl; have z1 : w7.cell? ⟨g7, 1, none⟩ = some (.float .f64 0) := (blk_cell hbox 1).trans rfl; have y0 := blk_frozen hbox 0; have y1 := blk_frozen hbox 1; have HX7 := Aside0.mk hbox; have HI7 := Aside0.mk hg7; have HB7 := Aside0.mk hb7; clear hbox hg7 hb7))
    have hg7 : w.heap.size ≤ g7 := Nat.le_trans HB5.out.size (Nat.le_of_eq HI7.out.symm)
    have hx8 : ((w7.setCell ⟨g7, 0, none⟩ (.float .f64 (X b s.per))).setCell ⟨g7, 1, none⟩ (.float .f64 (Y b s.per))).heap[g7]? = some (.cells #[.float .f64 (X b s.per), .float .f64 (Y b s.per)] 96 (0, 0)) := blk_put (blk_put HX7.out 0 _ rfl) 1 _ rfl
    have hne : g2 ≠ g7 := by
      have h1 := blk_lt HX5.out
      have h2 := HI7.out
      omega
    have hy8 : ((w7.setCell ⟨g7, 0, none⟩ (.float .f64 (X b s.per))).setCell ⟨g7, 1, none⟩ (.float .f64 (Y b s.per))).heap[g2]? = some (.cells #[.float .f64 (X s.pos s.per), .float .f64 (Y s.pos s.per)] 96 (0, 0)) := by
      rw [Below.heap_setCell _ _ _ g2 hne, Below.heap_setCell _ _ _ g2 hne]
      exact blk_below HX5.out HB7.out
    have hb8 : Below w.heap.size w ((w7.setCell ⟨g7, 0, none⟩ (.float .f64 (X b s.per))).setCell ⟨g7, 1, none⟩ (.float .f64 (Y b s.per))) := ((below_step HB5.out HB7.out).setCell (p := ⟨g7, 0, none⟩) hg7 _).setCell (p := ⟨g7, 1, none⟩) hg7 _
    clear z0 z1 y0 y1 c3
    generalize ((w7.setCell ⟨g7, 0, none⟩ (.float .f64 (X b s.per))).setCell ⟨g7, 1, none⟩ (.float .f64 (Y b s.per))) = w8 at *
    have a0 : w8.cell? ⟨g2, 0, none⟩ = some (.float .f64 (X s.pos s.per)) := (blk_cell hy8 0).trans rfl
    have a1 : w8.cell? ⟨g2, 1, none⟩ = some (.float .f64 (Y s.pos s.per)) := (blk_cell hy8 1).trans rfl
    have b0 : w8.cell? ⟨g7, 0, none⟩ = some (.float .f64 (X b s.per)) := (blk_cell hx8 0).trans rfl
    have b1 : w8.cell? ⟨g7, 1, none⟩ = some (.float .f64 (Y b s.per)) := (blk_cell hx8 1).trans rfl
    have HB8 := Aside0.mk hb8
    clear hx8 hy8 hb8
    go_wp2_with (go_at_call 73; with_reducible refine (refWay_calls hpos hb hper _).mono ?_; rintro e w9 ⟨rfl, hb9⟩)
    go_ret
    exact ⟨rfl, below_step HB8.out hb9⟩
  · refine event_step (v := .pointer (some ⟨w.drew.heap.size, 0, none⟩)) (w1 := (w.drew.alloc (.cells #[.float .f64 0, .float .f64 0] 96))) (by rfl) (by first | (go_simp; done) | (go_simp; rfl)) ?_
    have hx3 : (w.drew.alloc (.cells #[.float .f64 0, .float .f64 0] 96)).heap[w.drew.heap.size]? = some (.cells #[.float .f64 0, .float .f64 0] 96 (0, 0)) := blk_new w.drew _
    have hb3 : Below w.heap.size w (w.drew.alloc (.cells #[.float .f64 0, .float .f64 0] 96)) := below_alloc (below_drew (Below.refl w.heap.size w)) _
    clear hHeld
    have hgg : w.heap.size ≤ w.drew.heap.size := (below_drew (Below.refl w.heap.size w)).size
    generalize w.drew.alloc (.cells #[.float .f64 0, .float .f64 0] 96) = w3 at *
    generalize hgs : w.drew.heap.size = g2 at *
    have HX4 := Aside0.mk hx3
    have HB4 := Aside0.mk hb3
    clear hx3 hb3 hgs
    generalize w3 = w1 at *
    refine hK.out _ _ ⟨pw_cell_below HB4.out c2, pw_cell_below HB4.out c1⟩ (fun hHeld => ?_)
    clear hK K
    refine norm_ (a' := ?_) ?_ ?_
    rotate_left
    · show Act.put _ (some 5) _ = _
      simp only [Act.put, List.setIfInBounds_toArray, List.set_cons_zero, List.set_cons_succ]
      rfl
    refine one_ (i := 8) (N := some 18) #[true, true, true, true, true, true, true, true, true, false, false, false, true, false, false] rfl rfl (one_of HT_.out (by kernel_rfl)) (by decide) (fun K hK => ?_)
    refine goes_ Try.func72 (by kernel_rfl) rfl #[.int .i64 s.pos, .int .i64 s.per] (by rfl) rfl rfl (by (try simp only [List.map_toArray, List.map_cons, List.map_nil]); rfl) ?_
    with_reducible refine (refAt_calls hpos hper _).mono ?_
    rintro e w2 ⟨rfl, hb2⟩
    have HB2 : Aside0 (Below w.heap.size w w2) := ⟨below_step HB4.out hb2⟩
    refine ⟨_, rfl, ?_⟩
    clear hHeld
    have HX3 := Aside0.mk (blk_below HX4.out hb2)
    clear hb2
    have HB3 := HB2
    generalize w2 = w3 at *
    clear HX4 HB4
    have z0 : w3.cell? ⟨g2, 0, none⟩ = some (.float .f64 0) := (blk_cell HX3.out 0).trans rfl
    have z1 : w3.cell? ⟨g2, 1, none⟩ = some (.float .f64 0) := (blk_cell HX3.out 1).trans rfl
    have y0 := blk_frozen HX3.out 0
    have y1 := blk_frozen HX3.out 1
    refine hK.out _ _ ⟨pw_cell_below HB3.out c2, pw_cell_below HB3.out c1⟩ (fun hHeld => ?_)
    clear hK K
    refine norm_ (a' := ?_) ?_ ?_
    rotate_left
    · show Act.put _ (some 18) _ = _
      simp only [Act.put, List.setIfInBounds_toArray, List.set_cons_zero, List.set_cons_succ]
      rfl
    refine pure_ (i := 9) (N := some 9) (v := ?_) (a' := ?_) #[true, true, true, true, true, true, true, true, true, true, false, false, true, false, false] rfl rfl (any_of HT_.out (by kernel_rfl)) (fun _ _ _ h => h) (Or.inl ⟨by rfl, ?_⟩) ?_ ?_
    rotate_left
    · intro w'
      go_simp
      with_reducible rfl
    rotate_left
    · simp only [Act.put, List.setIfInBounds_toArray, List.set_cons_zero, List.set_cons_succ]
      rfl
    refine pure_ (i := 10) (N := some 19) (v := ?_) (a' := ?_) #[true, true, true, true, true, true, true, true, true, true, true, false, true, false, false] rfl rfl (any_of HT_.out (by kernel_rfl)) (fun _ _ _ h => h) (Or.inl ⟨by rfl, ?_⟩) ?_ ?_
    rotate_left
    · intro w'
      go_simp
      with_reducible rfl
    rotate_left
    · simp only [Act.put, List.setIfInBounds_toArray, List.set_cons_zero, List.set_cons_succ]
      rfl
    refine pure_ (i := 11) (N := some 20) (v := ?_) (a' := ?_) #[true, true, true, true, true, true, true, true, true, true, true, true, true, false, false] rfl rfl (any_of HT_.out (by kernel_rfl)) (fun _ _ _ h => h) (Or.inl ⟨by rfl, ?_⟩) ?_ ?_
    rotate_left
    · intro w'
      go_simp
      with_reducible rfl
    rotate_left
    · simp only [Act.put, List.setIfInBounds_toArray, List.set_cons_zero, List.set_cons_succ]
      rfl
    refine last_ (i := 13) (N := none) #[true, true, true, true, true, true, true, true, true, true, true, true, true, true, false] rfl rfl (one_of HT_.out (by kernel_rfl)) (by decide) (fun K hK => ?_)
    refine skip_ (w1 := ?_) (by rfl) rfl ?_ ?_
    rotate_left
    · go_simp
      rfl
    refine hK.out _ _ ?_
    clear hK K
    refine pure_ (i := 14) (N := some 6) (v := ?_) (a' := ?_) #[true, true, true, true, true, true, true, true, true, true, true, true, true, true, true] rfl rfl (any_of HT_.out (by kernel_rfl)) (fun _ _ _ h => h) (Or.inl ⟨by rfl, ?_⟩) ?_ ?_
    rotate_left
    · intro w'
      go_simp
      with_reducible rfl
    rotate_left
    · simp only [Act.put, List.setIfInBounds_toArray, List.set_cons_zero, List.set_cons_succ]
      rfl
    refine done_ (done_of HT_.out (by kernel_rfl)) ?_
    have hx4 : ((w3.setCell ⟨g2, 0, none⟩ (.float .f64 (X s.pos s.per))).setCell ⟨g2, 1, none⟩ (.float .f64 (Y s.pos s.per))).heap[g2]? = some (.cells #[.float .f64 (X s.pos s.per), .float .f64 (Y s.pos s.per)] 96 (0, 0)) := blk_put (blk_put HX3.out 0 _ rfl) 1 _ rfl
    have hb4 : Below w.heap.size w ((w3.setCell ⟨g2, 0, none⟩ (.float .f64 (X s.pos s.per))).setCell ⟨g2, 1, none⟩ (.float .f64 (Y s.pos s.per))) := (HB3.out.setCell (p := ⟨g2, 0, none⟩) hgg _).setCell (p := ⟨g2, 1, none⟩) hgg _
    clear z0 z1 y0 y1
    generalize ((w3.setCell ⟨g2, 0, none⟩ (.float .f64 (X s.pos s.per))).setCell ⟨g2, 1, none⟩ (.float .f64 (Y s.pos s.per))) = w4 at *
    have c3 := pw_cell_below hb4 c1
    have HX4 := Aside0.mk hx4
    have HB4 := Aside0.mk hb4
    clear hx4 hb4 hHeld c1 c2 HX3 HB3
    go_upto_region 3 with (first | (go_at_call 72; with_reducible refine (refAt_calls hb hper _).mono ?_; rintro e w5 ⟨rfl, hb5⟩; have HX5 := Aside0.mk (blk_below HX4.out hb5); have HB5 := Aside0.mk (below_step HB4.out hb5); clear hb5) | ((with_reducible refine gate_dst (N := 7) rfl ?_); refine box_event ?hg (N := 7) ?hd (cs := #[.float .f64 0, .float .f64 0]) (t := 96) ?hr ?_; (case hd => rfl); (case hg => rfl); (case hr => first | (go_simp; done) | (go_simp; rfl)); intro g7 hg7 w7 hbox hb7; have z0 : w7.cell? ⟨g7, 0, none⟩ = some (.float .f64 0) := (blk_cell hbox 0).trans rfl; have z1 : w7.cell? ⟨g7, 1, none⟩ = some (.float .f64 0) := (blk_cell hbox 1).trans rfl; have y0 := blk_frozen hbox 0; have y1 := blk_frozen hbox 1; have HX7 := Aside0.mk hbox; have HI7 := Aside0.mk hg7; have HB7 := Aside0.mk hb7; clear hbox hg7 hb7))
    have hg7 : w.heap.size ≤ g7 := Nat.le_trans HB5.out.size (Nat.le_of_eq HI7.out.symm)
    have hx8 : ((w7.setCell ⟨g7, 0, none⟩ (.float .f64 (X b s.per))).setCell ⟨g7, 1, none⟩ (.float .f64 (Y b s.per))).heap[g7]? = some (.cells #[.float .f64 (X b s.per), .float .f64 (Y b s.per)] 96 (0, 0)) := blk_put (blk_put HX7.out 0 _ rfl) 1 _ rfl
    have hne : g2 ≠ g7 := by
      have h1 := blk_lt HX5.out
      have h2 := HI7.out
      omega
    have hy8 : ((w7.setCell ⟨g7, 0, none⟩ (.float .f64 (X b s.per))).setCell ⟨g7, 1, none⟩ (.float .f64 (Y b s.per))).heap[g2]? = some (.cells #[.float .f64 (X s.pos s.per), .float .f64 (Y s.pos s.per)] 96 (0, 0)) := by
      rw [Below.heap_setCell _ _ _ g2 hne, Below.heap_setCell _ _ _ g2 hne]
      exact blk_below HX5.out HB7.out
    have hb8 : Below w.heap.size w ((w7.setCell ⟨g7, 0, none⟩ (.float .f64 (X b s.per))).setCell ⟨g7, 1, none⟩ (.float .f64 (Y b s.per))) := ((below_step HB5.out HB7.out).setCell (p := ⟨g7, 0, none⟩) hg7 _).setCell (p := ⟨g7, 1, none⟩) hg7 _
    clear z0 z1 y0 y1 c3
    generalize ((w7.setCell ⟨g7, 0, none⟩ (.float .f64 (X b s.per))).setCell ⟨g7, 1, none⟩ (.float .f64 (Y b s.per))) = w8 at *
    have a0 : w8.cell? ⟨g2, 0, none⟩ = some (.float .f64 (X s.pos s.per)) := (blk_cell hy8 0).trans rfl
    have a1 : w8.cell? ⟨g2, 1, none⟩ = some (.float .f64 (Y s.pos s.per)) := (blk_cell hy8 1).trans rfl
    have b0 : w8.cell? ⟨g7, 0, none⟩ = some (.float .f64 (X b s.per)) := (blk_cell hx8 0).trans rfl
    have b1 : w8.cell? ⟨g7, 1, none⟩ = some (.float .f64 (Y b s.per)) := (blk_cell hx8 1).trans rfl
    have HB8 := Aside0.mk hb8
    clear hx8 hy8 hb8
    go_wp2_with (go_at_call 73; with_reducible refine (refWay_calls hpos hb hper _).mono ?_; rintro e w9 ⟨rfl, hb9⟩)
    go_ret
    exact ⟨rfl, below_step HB8.out hb9⟩
def dropD_T0 : Bool × List (List Nat × List Nat) := (true, [([], []), ([], []), ([], []), ([2], [2]), ([3], [3]), ([4], [4]), ([], []), ([5, 6], [5, 6]), ([1, 7], [1, 7]), ([], []), ([9], [9]), ([10], [10]), ([11], [11]), ([], []), ([13], [13]), ([12, 14], [12, 14]), ([8, 15, 8], [8, 15]), ([0, 0, 1, 2, 3, 4, 5, 6, 7, 8, 9, 10, 11, 12, 13, 14, 15, 16], [0]), ([17, 0, 1, 2, 3, 4, 5, 6, 7, 8, 9, 10, 11, 12, 13, 14, 15, 16], [17]), ([18, 16, 16, 0, 1, 2, 3, 4, 5, 6, 7, 8, 9, 10, 11, 12, 13, 14, 15, 16], [16, 18])])
def dropD_B0 : List Nat := [0, 0, 0, 4, 12, 28, 0, 124, 254, 0, 512, 1536, 3584, 0, 8192, 32256, 65534, 131071, 262143, 524287]
theorem dropD_tab0 : rtab .any (opsOf Try.f58 0) = dropD_T0 := by kernel_rfl
theorem dropD_bits0 : waitsOk dropD_T0.2 dropD_B0 = true := by kernel_rfl
set_option maxHeartbeats 4000000 in
set_option maxRecDepth 100000 in
theorem dropD_calls (g : Nat) (P : Nat → Prop) (s : Sc) (l : List S86) (n : Nat) (w0 w : World) (hB : Below w0.heap.size w0 w) (h : DS w0.heap.size P w g s l) (hn : l.length < 1000) (hlt : n < l.length) :
    Calls Try.prog 58 #[.pointer (some ⟨g, 0, none⟩), .int .i64 (n : Int)] w fun e w' => e = .returned (.tuple #[]) ∧ DS w0.heap.size (fun k => P k ∨ w.heap.size ≤ k) w' g s (l.eraseIdx n) ∧ Below w0.heap.size w0 w' ∧ Kept w w' P := by
  have HB := Aside0.mk hB
  have HS := Aside0.mk h
  have HN := Aside0.mk hn
  obtain ⟨gr, cap, hg, hR, hne, hP, hb0, hl, hcap, hC⟩ := ds_open h (by omega)
  have c5 : w.cell? ⟨g, 5, none⟩ = some (.slice (some ⟨gr, 0, none⟩) l.length cap) := (blk_cell hg 5).trans rfl
  obtain ⟨m, hm⟩ : ∃ m, n + 1 = m := ⟨_, rfl⟩
  have p1 : (0 ≤ (n : Int)) = True := eq_true (by omega)
  have p2 : ((n : Int) < (l.length : Int)) = True := eq_true (by omega)
  have p3 : ((n : Int) ≤ (cap : Int)) = True := eq_true (by omega)
  have p4 : ((l.length : Int) ≤ (cap : Int)) = True := eq_true (by omega)
  have p5 : (0 ≤ (m : Int)) = True := eq_true (by omega)
  have p6 : ((m : Int) ≤ (l.length : Int)) = True := eq_true (by omega)
  have ew : wrap64 ((n : Int) + 1) = (m : Int) := by unfold wrap64; omega
  have HG := Aside0.mk hg
  have HC := Aside0.mk hC
  rw [List.eraseIdx_eq_take_drop_succ, hm]
  clear hR hg h hB hC hn
  go_enter Try.func58, Try.ntmps58
  go_upto_region 0 with (fail)
  refine start_ (n := 20) (S := fun w' => w'.cell? ⟨g, 5, none⟩ = some (.slice (some ⟨gr, 0, none⟩) l.length cap)) (ds := [19]) #[false, false, false, false, false, false, false, false, false, false, false, false, false, false, false, false, false, false, false, false] (by kernel_rfl) rfl rfl (pw_cell_below (below_drew (Below.refl _ _)) ((blk_cell HG.out 5).trans rfl)) (fun hHeld => ?_); refine with_tabW dropD_tab0 dropD_bits0 (fun HT_ HW_ => ?_)
  refine pure_ (i := 0) (N := some 4) (v := ?_) (a' := ?_) #[true, false, false, false, false, false, false, false, false, false, false, false, false, false, false, false, false, false, false, false] rfl rfl (any_of HT_.out (by kernel_rfl)) (fun _ _ _ h => h) (Or.inl ⟨by rfl, ?_⟩) ?_ ?_
  rotate_left
  · intro w'
    go_simp
    with_reducible rfl
  rotate_left
  · simp only [Act.put, List.setIfInBounds_toArray, List.set_cons_zero, List.set_cons_succ]
    rfl
  refine pure_ (i := 2) (N := some 6) (v := ?_) (a' := ?_) #[true, false, true, false, false, false, false, false, false, false, false, false, false, false, false, false, false, false, false, false] rfl rfl (any_of HT_.out (by kernel_rfl)) (fun _ _ _ h => h) (Or.inl ⟨by rfl, ?_⟩) ?_ ?_
  rotate_left
  · intro w'
    go_simp
    with_reducible rfl
  rotate_left
  · simp only [Act.put, List.setIfInBounds_toArray, List.set_cons_zero, List.set_cons_succ]
    rfl
  refine pure_ (i := 3) (N := some 7) (v := ?_) (a' := ?_) #[true, false, true, true, false, false, false, false, false, false, false, false, false, false, false, false, false, false, false, false] rfl rfl (any_of HT_.out (by kernel_rfl)) (fun _ _ _ h => h) (Or.inl ⟨by rfl, ?_⟩) ?_ ?_
  rotate_left
  · intro w'
    go_simp
    with_reducible rfl
  rotate_left
  · simp only [Act.put, List.setIfInBounds_toArray, List.set_cons_zero, List.set_cons_succ]
    rfl
  refine pure_ (i := 4) (N := some 8) (v := ?_) (a' := ?_) #[true, false, true, true, true, false, false, false, false, false, false, false, false, false, false, false, false, false, false, false] rfl rfl (any_of HT_.out (by kernel_rfl)) (fun _ _ _ h => h) (Or.inl ⟨by rfl, ?_⟩) ?_ ?_
  rotate_left
  · intro w'
    go_simp
    with_reducible rfl
  rotate_left
  · simp only [Act.put, List.setIfInBounds_toArray, List.set_cons_zero, List.set_cons_succ]
    rfl
  refine take_ (i := 5) (N := some 9) (v := ?_) (a' := ?_) #[true, false, true, true, true, true, false, false, false, false, false, false, false, false, false, false, false, false, false, false] rfl rfl (take_ofW HT_.out HW_.out (by kernel_rfl)) (fun _ _ _ h => h) (Or.inl ⟨by rfl, ?_⟩) hHeld ?_ ?_
  rotate_left
  · rintro w' s0
    go_simp
    with_reducible rfl
  rotate_left
  · simp only [Act.put, List.setIfInBounds_toArray, List.set_cons_zero, List.set_cons_succ]
    rfl
  refine pure_ (i := 6) (N := some 10) (v := ?_) (a' := ?_) #[true, false, true, true, true, true, true, false, false, false, false, false, false, false, false, false, false, false, false, false] rfl rfl (any_of HT_.out (by kernel_rfl)) (fun _ _ _ h => h) (Or.inl ⟨by rfl, ?_⟩) ?_ ?_
  rotate_left
  · intro w'
    go_simp
    with_reducible rfl
  rotate_left
  · simp only [Act.put, List.setIfInBounds_toArray, List.set_cons_zero, List.set_cons_succ]
    rfl
  refine pure_ (i := 7) (N := some 11) (v := ?_) (a' := ?_) #[true, false, true, true, true, true, true, true, false, false, false, false, false, false, false, false, false, false, false, false] rfl rfl (any_of HT_.out (by kernel_rfl)) (fun _ _ _ h => h) (Or.inl ⟨by rfl, ?_⟩) ?_ ?_
  rotate_left
  · intro w'
    go_simp
    with_reducible rfl
  rotate_left
  · simp only [Act.put, List.setIfInBounds_toArray, List.set_cons_zero, List.set_cons_succ]
    rfl
  refine pure_ (i := 9) (N := some 13) (v := ?_) (a' := ?_) #[true, false, true, true, true, true, true, true, false, true, false, false, false, false, false, false, false, false, false, false] rfl rfl (any_of HT_.out (by kernel_rfl)) (fun _ _ _ h => h) (Or.inl ⟨by rfl, ?_⟩) ?_ ?_
  rotate_left
  · intro w'
    go_simp
    with_reducible rfl
  rotate_left
  · simp only [Act.put, List.setIfInBounds_toArray, List.set_cons_zero, List.set_cons_succ]
    rfl
  refine pure_ (i := 10) (N := some 14) (v := ?_) (a' := ?_) #[true, false, true, true, true, true, true, true, false, true, true, false, false, false, false, false, false, false, false, false] rfl rfl (any_of HT_.out (by kernel_rfl)) (fun _ _ _ h => h) (Or.inl ⟨by rfl, ?_⟩) ?_ ?_
  rotate_left
  · intro w'
    go_simp
    with_reducible rfl
  rotate_left
  · simp only [Act.put, List.setIfInBounds_toArray, List.set_cons_zero, List.set_cons_succ]
    rfl
  refine pure_ (i := 11) (N := some 15) (v := ?_) (a' := ?_) #[true, false, true, true, true, true, true, true, false, true, true, true, false, false, false, false, false, false, false, false] rfl rfl (any_of HT_.out (by kernel_rfl)) (fun _ _ _ h => h) (Or.inl ⟨by rfl, ?_⟩) ?_ ?_
  rotate_left
  · intro w'
    go_simp
    with_reducible rfl
  rotate_left
  · simp only [Act.put, List.setIfInBounds_toArray, List.set_cons_zero, List.set_cons_succ]
    rfl
  refine take_ (i := 12) (N := some 16) (v := ?_) (a' := ?_) #[true, false, true, true, true, true, true, true, false, true, true, true, true, false, false, false, false, false, false, false] rfl rfl (take_ofW HT_.out HW_.out (by kernel_rfl)) (fun _ _ _ h => h) (Or.inl ⟨by rfl, ?_⟩) hHeld ?_ ?_
  rotate_left
  · rintro w' s0
    go_simp
    with_reducible rfl
  rotate_left
  · simp only [Act.put, List.setIfInBounds_toArray, List.set_cons_zero, List.set_cons_succ]
    rfl
  refine pure_ (i := 13) (N := some 17) (v := ?_) (a' := ?_) #[true, false, true, true, true, true, true, true, false, true, true, true, true, true, false, false, false, false, false, false] rfl rfl (any_of HT_.out (by kernel_rfl)) (fun _ _ _ h => h) (Or.inl ⟨by rfl, ?_⟩) ?_ ?_
  rotate_left
  · intro w'
    go_simp
    with_reducible rfl
  rotate_left
  · simp only [Act.put, List.setIfInBounds_toArray, List.set_cons_zero, List.set_cons_succ]
    rfl
  refine pure_ (i := 14) (N := some 18) (v := ?_) (a' := ?_) #[true, false, true, true, true, true, true, true, false, true, true, true, true, true, true, false, false, false, false, false] rfl rfl (any_of HT_.out (by kernel_rfl)) (fun _ _ _ h => h) (Or.inl ⟨by rfl, ?_⟩) ?_ ?_
  rotate_left
  · intro w'
    go_simp
    with_reducible rfl
  rotate_left
  · simp only [Act.put, List.setIfInBounds_toArray, List.set_cons_zero, List.set_cons_succ, i64_w]
    rfl
  refine pure_ (i := 15) (N := some 19) (v := ?_) (a' := ?_) #[true, false, true, true, true, true, true, true, false, true, true, true, true, true, true, true, false, false, false, false] rfl rfl (any_of HT_.out (by kernel_rfl)) (fun _ _ _ h => h) (Or.inl ⟨by rfl, ?_⟩) ?_ ?_
  rotate_left
  · intro w'
    go_simp
    with_reducible rfl
  rotate_left
  · simp only [Act.put, List.setIfInBounds_toArray, List.set_cons_zero, List.set_cons_succ]
    rfl
  refine one_ (i := 1) (N := some 5) #[true, true, true, true, true, true, true, true, false, true, true, true, true, true, true, true, false, false, false, false] rfl rfl (one_of HT_.out (by kernel_rfl)) (by decide) (fun K hK => ?_)
  generalize hA1 : (if cap = m then (some ⟨gr, 0, none⟩ : Option Addr) else some ⟨gr, m * 2, none⟩) = A9
  have hdr : Kd.C k86 w A9 (l.length - m) (l.drop m) := by
    have h0 := Kd.C_drop HC.out (Nat.le_trans (by omega) (Nat.le_refl l.length) : m ≤ l.length) hcap
    have e0 : (if cap = m then (some (⟨gr, 0, none⟩ : Addr)) else Option.map (fun (x : Addr) => x.add (m * k86.sz)) (some (⟨gr, 0, none⟩ : Addr))) = A9 := by rw [← hA1]; split <;> simp [add_plain, show k86.sz = 2 from rfl]
    rw [e0, List.length_drop] at h0
    exact h0
  have htk : Kd.C k86 w (some ⟨gr, 0, none⟩) n (l.take n) := by
    have h0 := Kd.C_take HC.out (show n ≤ l.length by omega)
    rw [List.length_take, Nat.min_eq_left (by omega)] at h0
    exact h0
  refine Kd.R_lit_step k86 (w0 := w) w.heap.size 86 (by rfl) (N := 5) rfl (xs := ([] : List S86)) (inner := []) (ok := fun _ => True) (okp := fun _ => False) (by first | (go_simp; done) | (go_simp; rfl)) (Reps.none _ _) (fun _ h => h.elim) trivial (below_drew (Below.refl _ _)) (Nat.le_refl _) (by decide) ?_
  intro v1 w1 ho1 hb1 hg1 hn1
  obtain ⟨A1, c1, e1⟩ := Kd.R_slice ho1
  subst e1
  clear hg1 hn1 hHeld
  refine hK.out _ _ (pw_cell_below hb1 ((blk_cell HG.out 5).trans rfl)) (fun hHeld => ?_)
  clear hK K
  refine norm_ (a' := ?_) ?_ ?_
  rotate_left
  · show Act.put _ (some 5) _ = _
    simp only [Act.put, List.setIfInBounds_toArray, List.set_cons_zero, List.set_cons_succ]
    rfl
  refine one_ (i := 8) (N := some 12) #[true, true, true, true, true, true, true, true, true, true, true, true, true, true, true, true, false, false, false, false] rfl rfl (one_of HT_.out (by kernel_rfl)) (by decide) (fun K hK => ?_)
  refine Kd.R_append_rows_step k86 (w0 := w) w.heap.size (by rfl) (.tmp 5) (.tmp 11) 68 86 (.agg #[.int .i64 0, .int .i64 0]) 16 rfl Try.underlying68 info86 rfl (by decide) (by omega) _ ([] : List S86) (l.take n) (some ⟨gr, 0, none⟩) n cap (fun _ => True) (fun _ => False) rfl rfl ho1 (Kd.C_below htk hb1) (fun x cs h => by obtain rfl := k86_open h; exact k86_mkM _ _ _ x) (fun _ h => h.elim) (fun _ _ => trivial) hb1 hb1.size (by have := HN.out; simp; omega) ?_
  intro v2 w2 ho2 hb2 hg2 hat2
  rw [List.nil_append] at ho2
  have ho2' := ho2
  obtain ⟨A2, c2, e2⟩ := Kd.R_slice ho2'
  rw [List.length_take, Nat.min_eq_left (by omega : n ≤ l.length)] at e2
  subst e2
  clear hg2 hat2 hHeld ho1 hb1 ho2'
  refine hK.out _ _ (pw_cell_below hb2 ((blk_cell HG.out 5).trans rfl)) (fun hHeld => ?_)
  clear hK K
  refine norm_ (a' := ?_) ?_ ?_
  rotate_left
  · show Act.put _ (some 12) _ = _
    simp only [Act.put, List.setIfInBounds_toArray, List.set_cons_zero, List.set_cons_succ]
    rfl
  refine one_ (i := 16) (N := some 20) #[true, true, true, true, true, true, true, true, true, true, true, true, true, true, true, true, true, false, false, false] rfl rfl (one_of HT_.out (by kernel_rfl)) (by decide) (fun K hK => ?_)
  refine Kd.R_append_rows_step k86 (w0 := w) w.heap.size (by rfl) (.tmp 12) (.tmp 19) 68 86 (.agg #[.int .i64 0, .int .i64 0]) 16 rfl Try.underlying68 info86 rfl (by decide) (by omega) _ (l.take n) (l.drop m) A9 (l.length - m) (cap - m) (fun _ => True) (fun _ => False) rfl rfl ho2 (Kd.C_below hdr hb2) (fun x cs h => by obtain rfl := k86_open h; exact k86_mkM _ _ _ x) (fun _ h => h.elim) (fun _ _ => trivial) hb2 hb2.size (by have := HN.out; simp; omega) ?_
  intro v3 w3 ho3 hb3 hg3 hat3
  obtain ⟨A3, c3, e3⟩ := Kd.R_slice ho3
  rw [show (l.take n ++ l.drop m).length = min n l.length + (l.length - m) from by simp] at e3
  subst e3
  have HO := Aside0.mk ho3
  have HB3 := Aside0.mk hb3
  clear hg3 hat3 hHeld ho2 hb2 ho3
  refine hK.out _ _ (pw_cell_below hb3 ((blk_cell HG.out 5).trans rfl)) (fun hHeld => ?_)
  clear hK K
  refine norm_ (a' := ?_) ?_ ?_
  rotate_left
  · show Act.put _ (some 20) _ = _
    simp only [Act.put, List.setIfInBounds_toArray, List.set_cons_zero, List.set_cons_succ]
    rfl
  refine pure_ (i := 17) (N := some 21) (v := ?_) (a' := ?_) #[true, true, true, true, true, true, true, true, true, true, true, true, true, true, true, true, true, true, false, false] rfl rfl (any_of HT_.out (by kernel_rfl)) (fun _ _ _ h => h) (Or.inl ⟨by rfl, ?_⟩) ?_ ?_
  rotate_left
  · intro w'
    go_simp
    with_reducible rfl
  rotate_left
  · simp only [Act.put, List.setIfInBounds_toArray, List.set_cons_zero, List.set_cons_succ]
    rfl
  refine pure_ (i := 18) (N := some 22) (v := ?_) (a' := ?_) #[true, true, true, true, true, true, true, true, true, true, true, true, true, true, true, true, true, true, true, false] rfl rfl (any_of HT_.out (by kernel_rfl)) (fun _ _ _ h => h) (Or.inl ⟨by rfl, ?_⟩) ?_ ?_
  rotate_left
  · intro w'
    go_simp
    with_reducible rfl
  rotate_left
  · simp only [Act.put, List.setIfInBounds_toArray, List.set_cons_zero, List.set_cons_succ]
    rfl
  refine last_ (i := 19) (N := none) #[true, true, true, true, true, true, true, true, true, true, true, true, true, true, true, true, true, true, true, true] rfl rfl (one_of HT_.out (by kernel_rfl)) (by decide) (fun K hK => ?_)
  have hs8 := hHeld
  have hf8 := blk_frozen (blk_below HG.out HB3.out) 5
  refine skip_ (w1 := ?_) (by rfl) rfl ?_ ?_
  rotate_left
  · go_simp
    rfl
  refine hK.out _ _ ?_
  clear hK K
  refine done_ (done_of HT_.out (by kernel_rfl)) ?_
  go_wp2
  go_end0
  exact ⟨rfl, DS.new HB.out HS.out.base HS.out.mine HG.out HB3.out HO.out⟩
end Go.Proofs.Ytfbjeiloefocgaa.CC
/-! Contracts of the document's arm: Ask, Cancel, least, greatest. -/
namespace Go.Proofs.Ytfbjeiloefocgaa.CC
open Go.RowKit Go.Proofs.Ytfbjeiloefocgaa.Fl Go.Proofs.Ytfbjeiloefocgaa.PL Go.Proofs.Ytfbjeiloefocgaa.PG Go.Proofs.YtfbjeiloefocgaaW.PrintWords Go.Proofs.YtfbjeiloefocgaaW.PrintLast Go.Proofs.YtfbjeiloefocgaaW.PrintMore
attribute [local go_sem] Oper.semAt_some

theorem AskD_nil (b : Int) (w : World) : Calls Try.prog 34 #[.pointer none, .int .i64 b] w fun e w' => e = .returned (.int .i64 1) ∧ Below w.heap.size w w' := by
  go_enter Try.func34, Try.ntmps34
  go_wp2
  go_ret
  exact ⟨rfl, Below.refl _ _⟩
def askD (l : List S86) (b : Int) : Int × List S86 := if b < 0 ∨ 1024 ≤ b then (2, l) else if 0 ≤ ix86 l b then (6, l) else if 24 ≤ l.length then (11, l) else (0, l ++ [⟨b, 0⟩])
set_option maxHeartbeats 1000000 in
theorem AskD_calls (g : Nat) (P : Nat → Prop) (s : Sc) (l : List S86) (b : Int) (w0 w : World) (hB : Below w0.heap.size w0 w) (h : DS w0.heap.size P w g s l) (hn : l.length < 1000) :
    Calls Try.prog 34 #[.pointer (some ⟨g, 0, none⟩), .int .i64 b] w fun e w' => e = .returned (.int .i64 (askD l b).1) ∧ DS w0.heap.size (fun k => P k ∨ w.heap.size ≤ k) w' g s (askD l b).2 ∧ Below w0.heap.size w0 w' ∧ Kept w w' P := by
  have HB := Aside0.mk hB
  have HS := Aside0.mk h
  have hf := findD_calls b h hn
  have same_ : ∀ w', Below w.heap.size w w' → DS w0.heap.size (fun k => P k ∨ w.heap.size ≤ k) w' g s l ∧ Below w0.heap.size w0 w' ∧ Kept w w' P := fun w' hb => ⟨(HS.out.below hb).mono (fun k hk => .inl hk), below_then HB.out HB.out.size hb, kept_below _ hb⟩
  have SAME := Aside0.mk same_
  clear same_
  unfold askD
  by_cases h1 : b < 0 ∨ 1024 ≤ b
  · rw [if_pos h1]
    clear h hB hf
    by_cases h2 : b < 0
    · have d1 : decide (b < 0) = true := by simpa using h2
      go_enter Try.func34, Try.ntmps34
      go_wp2
      go_ret
      exact ⟨rfl, SAME.out _ (Below.refl _ _)⟩
    · have d1 : decide (b < 0) = false := by simpa using h2
      have d2 : decide (1024 ≤ b) = true := by simp; omega
      go_enter Try.func34, Try.ntmps34
      go_wp2
      go_ret
      exact ⟨rfl, SAME.out _ (Below.refl _ _)⟩
  · rw [if_neg h1]
    have d1 : decide (b < 0) = false := by simp; omega
    have d2 : decide (1024 ≤ b) = false := by simp; omega
    by_cases h2 : 0 ≤ ix86 l b
    · rw [if_pos h2]
      have d3 : decide (0 ≤ ix86 l b) = true := by simpa using h2
      clear h hB
      generalize ix86 l b = r at *
      go_enter Try.func34, Try.ntmps34
      go_wp2_with (go_at_call 55; with_reducible refine hf.mono ?_; rintro e w6 ⟨rfl, hb⟩)
      go_ret
      exact ⟨rfl, SAME.out _ hb⟩
    · rw [if_neg h2]
      have d3 : decide (0 ≤ ix86 l b) = false := by simpa using h2
      generalize ix86 l b = r at *
      obtain ⟨-, -, v, hg, hR⟩ := h
      obtain ⟨A, c, rfl, -, hC⟩ := Kd.R_reads hR
      have HG := Aside0.mk hg
      have HC := Aside0.mk hC
      have HN := Aside0.mk hn
      have c5 : w.cell? ⟨g, 5, none⟩ = some (.slice A l.length c) := (blk_cell hg 5).trans rfl
      clear hg hR hC hB hn
      by_cases h3 : 24 ≤ l.length
      · rw [if_pos h3]
        have d4 : decide (24 ≤ (l.length : Int)) = true := by simp; omega
        have H3 := Aside0.mk h3
        clear h3
        go_enter Try.func34, Try.ntmps34
        go_wp2_with (go_at_call 55; with_reducible refine hf.mono ?_; rintro e w6 ⟨rfl, hb⟩; have c6 := pw_cell_below hb c5)
        go_ret
        exact ⟨rfl, SAME.out _ hb⟩
      · rw [if_neg h3]
        have d4 : decide (24 ≤ (l.length : Int)) = false := by simp; omega
        clear h3
        go_enter Try.func34, Try.ntmps34
        go_upto_region 9 with (go_at_call 55; with_reducible refine hf.mono ?_; rintro e w6 ⟨rfl, hb⟩; have c6 := pw_cell_below hb c5; have HB6 := Aside0.mk hb; clear hb)
        have HC6 := Aside0.mk (Kd.C_below HC.out HB6.out)
        have HG6 := Aside0.mk (blk_below HG.out HB6.out)
        clear c5
        go_wp2_with (first | ((with_reducible refine gate_dst (N := 28) rfl ?_); refine Kd.R_lit k86 (w0 := w6) w6.heap.size 86 ?hg (N := 28) ?hd (xs := ([] : List S86)) (inner := []) (ok := fun _ => True) (okp := fun _ => False) ?hr (Reps.none _ _) (fun _ h => h.elim) trivial (Below.refl _ _) (Nat.le_refl _) (by decide) ?_; (case hd => rfl); (case hg => rfl); (case hr => first | (go_simp; done) | (go_simp; rfl)); intro v1 w1 ho1 hb1 hg_ hnew_; clear hg_ hnew_; obtain ⟨A1, c1, e1⟩ := Kd.R_slice ho1; subst e1; have c7 := pw_cell_below hb1 c6) | ((with_reducible refine gate_builtin (b := .append) (xs := #[.tmp 28, .tmp 32]) rfl ?_); at_builtin; refine Kd.R_append_rows k86 (w0 := w6) w6.heap.size rfl (.tmp 28) (.tmp 32) 68 86 (.agg #[.int .i64 0, .int .i64 0]) 16 rfl Try.underlying68 info86 rfl (by decide) (by omega) _ ([] : List S86) l A l.length c (fun _ => True) (fun _ => False) rfl rfl ho1 (Kd.C_below HC6.out hb1) (fun x cs h => by obtain rfl := k86_open h; exact k86_mkM _ _ _ x) (fun _ h => h.elim) (fun _ _ => trivial) hb1 hb1.size ?aL ?_; (case aL => have := HN.out; simp; omega); intro v2 w2 ho hb hg hat; have HO2 := Aside0.mk ho; have HB2 := Aside0.mk hb; rw [List.nil_append] at HO2; obtain ⟨A2, c2, e2⟩ := Kd.R_slice HO2.out; subst e2; clear hg hat ho hb) | ((with_reducible refine gate_builtin (b := .append) (xs := #[.tmp 33, .tmp 36]) rfl ?_); at_builtin; refine Kd.R_append k86 (w0 := w6) w6.heap.size rfl (.tmp 33) (.tmp 36) 68 86 (.agg #[.int .i64 0, .int .i64 0]) 16 rfl Try.underlying68 info86 rfl (by decide) (by omega) _ l ⟨b, 0⟩ [.int .i64 b, .int .i64 0] (fun _ => True) (fun _ => False) rfl rfl (k86_mkM _ _ _ ⟨b, 0⟩) (fun _ hk => hk.elim) ?aF HO2.out HB2.out HB2.out.size ?aL ?_; (case aF => exact fun _ _ => trivial); (case aL => have := HN.out; omega); intro v3 w9 ho hb hg hat; have HO3 := Aside0.mk ho; have HB3 := Aside0.mk hb; obtain ⟨A3, c3, e3⟩ := Kd.R_slice ho; rw [show (l ++ [(⟨b, 0⟩ : S86)]).length = l.length + 1 from by simp] at e3; subst e3; have c9 := cellf (blk_below HG6.out hb); have f9 := blk_frozen (blk_below HG6.out hb) 5; clear ho hb hg hat))
        go_ret
        obtain ⟨q1, q2, q3⟩ := DS.new (below_then HB.out HB.out.size HB6.out) HS.out.base HS.out.mine HG6.out HB3.out HO3.out
        exact ⟨rfl, q1.mono (fun k hk => hk.imp (fun h => h) (fun h => Nat.le_trans HB6.out.size h)), q2, Nat.le_trans HB6.out.size q3.1, fun k hk hS => (q3.2 k (Nat.lt_of_lt_of_le hk HB6.out.size) hS).trans (HB6.out.block k hk)⟩
theorem CancelD_nil (b : Int) (w : World) : Calls Try.prog 51 #[.pointer none, .int .i64 b] w fun e w' => e = .returned (.int .i64 1) ∧ Below w.heap.size w w' := by
  go_enter Try.func51, Try.ntmps51
  go_wp2_with (go_at_call 55; with_reducible refine (findD_nil b _).mono ?_; rintro e w6 ⟨rfl, hb⟩)
  go_ret
  exact ⟨rfl, hb⟩
def cancelD (l : List S86) (b : Int) : Int × List S86 := if ix86 l b < 0 then (5, l) else (0, l.eraseIdx (ix86 l b).toNat)
set_option maxHeartbeats 1000000 in
theorem CancelD_calls (g : Nat) (P : Nat → Prop) (s : Sc) (l : List S86) (b : Int) (w0 w : World) (hB : Below w0.heap.size w0 w) (h : DS w0.heap.size P w g s l) (hn : l.length < 1000) :
    Calls Try.prog 51 #[.pointer (some ⟨g, 0, none⟩), .int .i64 b] w fun e w' => e = .returned (.int .i64 (cancelD l b).1) ∧ DS w0.heap.size (fun k => P k ∨ w.heap.size ≤ k) w' g s (cancelD l b).2 ∧ Below w0.heap.size w0 w' ∧ Kept w w' P := by
  have HB := Aside0.mk hB
  have HS := Aside0.mk h
  have hf := findD_calls b h hn
  unfold cancelD
  rcases ix86_range l b with hm | ⟨h0, h1⟩
  · rw [hm, if_pos (by decide)]
    rw [hm] at hf
    clear h hB
    go_enter Try.func51, Try.ntmps51
    go_wp2_with (go_at_call 55; with_reducible refine hf.mono ?_; rintro e w6 ⟨rfl, hb⟩)
    go_ret
    exact ⟨rfl, (HS.out.below hb).mono (fun k hk => .inl hk), below_then HB.out HB.out.size hb, kept_below _ hb⟩
  · obtain ⟨n, hnn⟩ := Int.eq_ofNat_of_zero_le h0
    rw [hnn] at hf h1 ⊢
    have hlt : n < l.length := by omega
    rw [if_neg (by omega), Int.toNat_natCast]
    have d0 : decide ((n : Int) < 0) = false := by simp
    have hdr := fun W (hb : Below w.heap.size w W) => dropD_calls g P s l n w0 W (below_then HB.out HB.out.size hb) (HS.out.below hb) hn hlt
    clear h hB h0 h1
    go_enter Try.func51, Try.ntmps51
    go_wp2_with (first | (go_at_call 55; with_reducible refine hf.mono ?_; rintro e w6 ⟨rfl, hb⟩; have HB6 := Aside0.mk hb; clear hb) | (go_at_call 58; with_reducible refine (hdr _ HB6.out).mono ?_; rintro e w8 ⟨rfl, q1, q2, q3⟩))
    go_ret
    exact ⟨rfl, q1.mono (fun k hk => hk.imp (fun h => h) (fun h => Nat.le_trans HB6.out.size h)), q2, Nat.le_trans HB6.out.size q3.1, fun k hk hS => (q3.2 k (Nat.lt_of_lt_of_le hk HB6.out.size) hS).trans (HB6.out.block k hk)⟩
end Go.Proofs.Ytfbjeiloefocgaa.CC
/-! Contracts of the document's arm: least, greatest. -/
namespace Go.Proofs.Ytfbjeiloefocgaa.CC
open Go.RowKit Go.Proofs.Ytfbjeiloefocgaa.Fl Go.Proofs.Ytfbjeiloefocgaa.PL Go.Proofs.Ytfbjeiloefocgaa.PG Go.Proofs.YtfbjeiloefocgaaW.PrintWords Go.Proofs.YtfbjeiloefocgaaW.PrintLast Go.Proofs.YtfbjeiloefocgaaW.PrintMore
attribute [local go_sem] Oper.semAt_some

/-- Where the first one is that is better than all others that are such; -1: none is such. -/
def bixD (p : S86 → Bool) (b : S86 → S86 → Bool) (l : List S86) : Nat → Int
  | 0 => -1
  | i + 1 => if p (l.getD i z86) = true ∧ (bixD p b l i < 0 ∨ b (l.getD i z86) (l.getD (bixD p b l i).toNat z86) = true) then (i : Int) else bixD p b l i
theorem bixD_range (p : S86 → Bool) (b : S86 → S86 → Bool) (l : List S86) : ∀ i, bixD p b l i = -1 ∨ 0 ≤ bixD p b l i ∧ bixD p b l i < i
  | 0 => .inl rfl
  | i + 1 => by
    unfold bixD
    split
    · right; omega
    · rcases bixD_range p b l i with h | h
      · left; exact h
      · right; omega
def upD (f : Int) (x : S86) : Bool := decide (f ≤ x.f0)
def dnD (f : Int) (x : S86) : Bool := decide (x.f0 ≤ f)
def lowD (x y : S86) : Bool := decide (x.f0 < y.f0)
def higD (x y : S86) : Bool := decide (y.f0 < x.f0)
theorem cell86 {w : World} {A : Option Addr} {l : List S86} (hC : Kd.C k86 w A l.length l) (i : Nat) (h : i < l.length) : ∃ ad, A = some ad ∧ w.cell? (ad.add (i * 2)) = some (.int .i64 (l.getD i z86).f0) := by
  obtain ⟨ad, e, h0, h1⟩ := at_T86 hC (i : Int) (by omega) (by omega)
  refine ⟨ad, e, ?_⟩
  have hrd : rd_T86 l (i : Int) = l.getD i z86 := rfl
  rw [hrd, Int.toNat_natCast] at h0
  exact h0
set_option maxRecDepth 100000 in
set_option maxHeartbeats 4000000 in
theorem least_calls {B : Nat} {P : Nat → Prop} {w : World} {g : Nat} {s : Sc} {l : List S86} (f : Int) (h : DS B P w g s l) (hn : l.length < 1000) :
    Calls Try.prog 70 #[.pointer (some ⟨g, 0, none⟩), .int .i64 f] w fun e w' => e = .returned (.int .i64 (bixD (upD f) lowD l l.length)) ∧ Below w.heap.size w w' := by
  obtain ⟨-, -, v, hg, hR⟩ := h
  obtain ⟨A, c, rfl, -, hC⟩ := Kd.R_reads hR
  have HC := Aside0.mk hC
  have HN := Aside0.mk hn
  have C5 : Aside0 (w.cell? ⟨g, 5, none⟩ = some (.slice A l.length c)) := ⟨(blk_cell hg 5).trans rfl⟩
  clear hg hR hC hn
  go_enter Try.func70, Try.ntmps70
  go_wp2
  go_loopg [5, 6] l.length (fun kq v5 v6 w' => ∃ i : Nat, i + kq = l.length ∧ v5 = .int .i64 (bixD (upD f) lowD l i) ∧ v6 = .int .i64 (i : Int) ∧ Aside0 (Below w.heap.size w w'))
  case atStart => exact ⟨0, by omega, rfl, rfl, ⟨Below.refl _ _⟩⟩
  case round =>
    obtain ⟨i, hi, rfl, rfl, hB⟩ := hrel
    cases gk with
    | zero =>
      obtain rfl : i = l.length := by omega
      have c5 := pw_cell_below hB.out C5.out
      have c0 : decide ((l.length : Int) < (l.length : Int)) = false := by simp
      go_wp2
      go_ret
      exact ⟨rfl, hB.out⟩
    | succ k1 =>
      have hlt : i < l.length := by omega
      have c5 := pw_cell_below hB.out C5.out
      have c0 : decide ((i : Int) < (l.length : Int)) = true := by simp; omega
      have p1 : (0 ≤ (i : Int)) = True := eq_true (by omega)
      have p2 : ((i : Int) < (l.length : Int)) = True := eq_true (by omega)
      obtain ⟨ad, e, hx0⟩ := cell86 (Kd.C_below HC.out hB.out) i hlt
      cases e
      have ewi : Aside0 (wrap64 ((i : Int) + 1) = ((i + 1 : Nat) : Int)) := ⟨by have := HN.out; unfold wrap64; omega⟩
      have hst : bixD (upD f) lowD l (i + 1) = if upD f (l.getD i z86) = true ∧ (bixD (upD f) lowD l i < 0 ∨ lowD (l.getD i z86) (l.getD (bixD (upD f) lowD l i).toNat z86) = true) then (i : Int) else bixD (upD f) lowD l i := rfl
      have hrg := bixD_range (upD f) lowD l i
      generalize hr : bixD (upD f) lowD l i = r at *
      obtain ⟨x, hx⟩ : ∃ x, l.getD i z86 = x := ⟨_, rfl⟩
      rw [hx] at hx0 hst
      clear hr hx
      by_cases hp : upD f x = true
      · have d1 : decide (f ≤ x.f0) = true := hp
        rcases hrg with hr | ⟨h0, h1⟩
        · subst hr
          have HST : Aside0 (bixD (upD f) lowD l (i + 1) = (i : Int)) := ⟨by rw [hst, if_pos ⟨hp, .inl (by decide)⟩]⟩
          clear hst hp
          go_wp2
          go_quiet (fail)
          go_wp2
          go_roundg k1
          case rel => exact ⟨i + 1, by omega, by rw [HST.out], by first | rfl | rw [ewi.out], ⟨pw_below_drewN hB.out nq⟩⟩
          all_goals omega
        · obtain ⟨n, hn2⟩ := Int.eq_ofNat_of_zero_le h0
          subst hn2
          have d2 : decide ((n : Int) < 0) = false := by simp
          obtain ⟨ad2, e2, hy0⟩ := cell86 (Kd.C_below HC.out hB.out) n (by omega)
          cases e2
          have q1 : (0 ≤ (n : Int)) = True := eq_true (by omega)
          have q2 : ((n : Int) < (l.length : Int)) = True := eq_true (by omega)
          rw [Int.toNat_natCast] at hst
          generalize l.getD n z86 = y at *
          by_cases hq : lowD x y = true
          · have d3 : decide (x.f0 < y.f0) = true := hq
            have HST : Aside0 (bixD (upD f) lowD l (i + 1) = (i : Int)) := ⟨by rw [hst, if_pos ⟨hp, .inr hq⟩]⟩
            clear hst hp hq
            go_wp2
            go_quiet (fail)
            go_wp2
            go_roundg k1
            case rel => exact ⟨i + 1, by omega, by rw [HST.out], by first | rfl | rw [ewi.out], ⟨pw_below_drewN hB.out nq⟩⟩
            all_goals omega
          · have d3 : decide (x.f0 < y.f0) = false := by simpa [lowD] using hq
            have HST : Aside0 (bixD (upD f) lowD l (i + 1) = (n : Int)) := ⟨by rw [hst, if_neg (fun h => h.2.elim (fun h => absurd h (by omega)) hq)]⟩
            clear hst hp hq
            go_wp2
            go_quiet (fail)
            go_wp2
            go_roundg k1
            case rel => exact ⟨i + 1, by omega, by rw [HST.out], by first | rfl | rw [ewi.out], ⟨pw_below_drewN hB.out nq⟩⟩
            all_goals omega
      · have d1 : decide (f ≤ x.f0) = false := by simpa [upD] using hp
        have HST : Aside0 (bixD (upD f) lowD l (i + 1) = r) := ⟨by rw [hst, if_neg (fun h => hp h.1)]⟩
        clear hst hp hrg
        go_wp2
        go_quiet (fail)
        go_wp2
        go_roundg k1
        case rel => exact ⟨i + 1, by omega, by rw [HST.out], by first | rfl | rw [ewi.out], ⟨pw_below_drewN hB.out nq⟩⟩
        all_goals omega
set_option maxRecDepth 100000 in
set_option maxHeartbeats 4000000 in
theorem greatest_calls {B : Nat} {P : Nat → Prop} {w : World} {g : Nat} {s : Sc} {l : List S86} (f : Int) (h : DS B P w g s l) (hn : l.length < 1000) :
    Calls Try.prog 71 #[.pointer (some ⟨g, 0, none⟩), .int .i64 f] w fun e w' => e = .returned (.int .i64 (bixD (dnD f) higD l l.length)) ∧ Below w.heap.size w w' := by
  obtain ⟨-, -, v, hg, hR⟩ := h
  obtain ⟨A, c, rfl, -, hC⟩ := Kd.R_reads hR
  have HC := Aside0.mk hC
  have HN := Aside0.mk hn
  have C5 : Aside0 (w.cell? ⟨g, 5, none⟩ = some (.slice A l.length c)) := ⟨(blk_cell hg 5).trans rfl⟩
  clear hg hR hC hn
  go_enter Try.func71, Try.ntmps71
  go_wp2
  go_loopg [5, 6] l.length (fun kq v5 v6 w' => ∃ i : Nat, i + kq = l.length ∧ v5 = .int .i64 (bixD (dnD f) higD l i) ∧ v6 = .int .i64 (i : Int) ∧ Aside0 (Below w.heap.size w w'))
  case atStart => exact ⟨0, by omega, rfl, rfl, ⟨Below.refl _ _⟩⟩
  case round =>
    obtain ⟨i, hi, rfl, rfl, hB⟩ := hrel
    cases gk with
    | zero =>
      obtain rfl : i = l.length := by omega
      have c5 := pw_cell_below hB.out C5.out
      have c0 : decide ((l.length : Int) < (l.length : Int)) = false := by simp
      go_wp2
      go_ret
      exact ⟨rfl, hB.out⟩
    | succ k1 =>
      have hlt : i < l.length := by omega
      have c5 := pw_cell_below hB.out C5.out
      have c0 : decide ((i : Int) < (l.length : Int)) = true := by simp; omega
      have p1 : (0 ≤ (i : Int)) = True := eq_true (by omega)
      have p2 : ((i : Int) < (l.length : Int)) = True := eq_true (by omega)
      obtain ⟨ad, e, hx0⟩ := cell86 (Kd.C_below HC.out hB.out) i hlt
      cases e
      have ewi : Aside0 (wrap64 ((i : Int) + 1) = ((i + 1 : Nat) : Int)) := ⟨by have := HN.out; unfold wrap64; omega⟩
      have hst : bixD (dnD f) higD l (i + 1) = if dnD f (l.getD i z86) = true ∧ (bixD (dnD f) higD l i < 0 ∨ higD (l.getD i z86) (l.getD (bixD (dnD f) higD l i).toNat z86) = true) then (i : Int) else bixD (dnD f) higD l i := rfl
      have hrg := bixD_range (dnD f) higD l i
      generalize hr : bixD (dnD f) higD l i = r at *
      obtain ⟨x, hx⟩ : ∃ x, l.getD i z86 = x := ⟨_, rfl⟩
      rw [hx] at hx0 hst
      clear hr hx
      by_cases hp : dnD f x = true
      · have d1 : decide (x.f0 ≤ f) = true := hp
        rcases hrg with hr | ⟨h0, h1⟩
        · subst hr
          have HST : Aside0 (bixD (dnD f) higD l (i + 1) = (i : Int)) := ⟨by rw [hst, if_pos ⟨hp, .inl (by decide)⟩]⟩
          clear hst hp
          go_wp2
          go_quiet (fail)
          go_wp2
          go_roundg k1
          case rel => exact ⟨i + 1, by omega, by rw [HST.out], by first | rfl | rw [ewi.out], ⟨pw_below_drewN hB.out nq⟩⟩
          all_goals omega
        · obtain ⟨n, hn2⟩ := Int.eq_ofNat_of_zero_le h0
          subst hn2
          have d2 : decide ((n : Int) < 0) = false := by simp
          obtain ⟨ad2, e2, hy0⟩ := cell86 (Kd.C_below HC.out hB.out) n (by omega)
          cases e2
          have q1 : (0 ≤ (n : Int)) = True := eq_true (by omega)
          have q2 : ((n : Int) < (l.length : Int)) = True := eq_true (by omega)
          rw [Int.toNat_natCast] at hst
          generalize l.getD n z86 = y at *
          by_cases hq : higD x y = true
          · have d3 : decide (y.f0 < x.f0) = true := hq
            have HST : Aside0 (bixD (dnD f) higD l (i + 1) = (i : Int)) := ⟨by rw [hst, if_pos ⟨hp, .inr hq⟩]⟩
            clear hst hp hq
            go_wp2
            go_quiet (fail)
            go_wp2
            go_roundg k1
            case rel => exact ⟨i + 1, by omega, by rw [HST.out], by first | rfl | rw [ewi.out], ⟨pw_below_drewN hB.out nq⟩⟩
            all_goals omega
          · have d3 : decide (y.f0 < x.f0) = false := by simpa [higD] using hq
            have HST : Aside0 (bixD (dnD f) higD l (i + 1) = (n : Int)) := ⟨by rw [hst, if_neg (fun h => h.2.elim (fun h => absurd h (by omega)) hq)]⟩
            clear hst hp hq
            go_wp2
            go_quiet (fail)
            go_wp2
            go_roundg k1
            case rel => exact ⟨i + 1, by omega, by rw [HST.out], by first | rfl | rw [ewi.out], ⟨pw_below_drewN hB.out nq⟩⟩
            all_goals omega
      · have d1 : decide (x.f0 ≤ f) = false := by simpa [dnD] using hp
        have HST : Aside0 (bixD (dnD f) higD l (i + 1) = r) := ⟨by rw [hst, if_neg (fun h => hp h.1)]⟩
        clear hst hp hrg
        go_wp2
        go_quiet (fail)
        go_wp2
        go_roundg k1
        case rel => exact ⟨i + 1, by omega, by rw [HST.out], by first | rfl | rw [ewi.out], ⟨pw_below_drewN hB.out nq⟩⟩
        all_goals omega
end Go.Proofs.Ytfbjeiloefocgaa.CC
