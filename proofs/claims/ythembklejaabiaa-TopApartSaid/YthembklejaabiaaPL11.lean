import Derived.Test.YthembklejaabiaaPL10
import Derived.Test.YthembklejaabiaaWGuard
/-! Contracts of the package place: Next. -/
namespace Go.Proofs.Ythembklejaabiaa.PL
open Go.RowKit Go.Proofs.Ythembklejaabiaa.Fl Go.Proofs.YthembklejaabiaaW.PrintWords Go.Proofs.YthembklejaabiaaW.PrintLast Go.Proofs.YthembklejaabiaaW.PrintMore
attribute [local go_sem] Oper.semAt_some
/-- The nearest one behind some: its place, how far it is. -/
def nx (p a : Int) : List Int → Nat → Int × Int → Int × Int
  | [], _, s => s
  | b :: t, i, s => nx p a t (i + 1) (if wayI a b p < s.2 then ((i : Int), wayI a b p) else s)
def place_Next.f (a0 : Int) (l1 : List Int) (a2 : Int) : Option (Int × Bool) := if l1.length < 140737488355328 then (if l1.length ≠ 0 ∧ mayB a2 [a0] = true ∧ mayB a2 l1 = true then some ((nx a2 a0 l1 0 (0, 9223372036854775807)).1, true) else some (0, false)) else none
set_option maxRecDepth 100000 in
set_option maxHeartbeats 2000000 in
theorem next_calls (a p : Int) (A : Option Addr) (c : Nat) (l : List Int) (w : World) (hC : Kd.C (Kd.int .i64) w A l.length l) (hn : l.length < 140737488355328) (h0 : l.length ≠ 0) (h1 : mayB p [a] = true) (h2 : mayB p l = true) :
    Calls Try.prog 18 #[.int .i64 a, .slice A l.length c, .int .i64 p] w fun e w' => e = .returned (.tuple #[.int .i64 (nx p a l 0 (0, 9223372036854775807)).1, .bool true]) ∧ Below w.heap.size w w' := by
  have HC := Aside0.mk hC
  have ha := (may_all h1).2 a (by simp)
  have hp := (may_all h1).1
  have hl := (may_all h2).2
  have N1 := Aside0.mk h1
  have N2 := Aside0.mk h2
  have HN := Aside0.mk hn
  have z0 : ((l.length : Int) == 0) = false := beq_eq_false_iff_ne.2 (by omega)
  have z1 : (l.length == 0) = false := beq_eq_false_iff_ne.2 h0
  clear hC h1 h2 hn
  go_enter Try.func18, Try.ntmps18
  go_upto_region 5 with (first | ((with_reducible refine gate_dst (N := 20) rfl ?_); (try (refine gate_guard (by rfl) ?_; dsimp only)); refine Kd.R_lit (Kd.int .i64) _ 3 ?hg (N := 20) ?hd (xs := ([a] : List Int)) (inner := [.int .i64 a]) (ok := fun _ => True) (okp := fun _ => True) ?hr ?hp (fun _ hk => hk) trivial (Below.refl _ _) (Nat.le_refl _) (by simp) ?_; (case hd => rfl); (case hg => rfl); (case hr => first | (go_simp; done) | (go_simp; rfl)); (case hp => exact (Reps.one (show Kd.M (Kd.int .i64) _ _ _ a [.int .i64 a] from rfl) (Reps.none _ _))); intro v1 w1 ho1 hb1 hg_ hnew_; clear hg_ hnew_; obtain ⟨A1, c1, e1⟩ := Kd.R_slice ho1; subst e1) | (go_at_call 26; first | (with_reducible refine (may_lit p a A1 c1 _ (Kd.R_reads' ho1).2.2).mono ?_; rw [N1.out]; rintro e w2 ⟨rfl, rfl⟩) | (with_reducible refine (may_calls p A c l _ (Kd.C_below HC.out hb1) HN.out).mono ?_; rw [N2.out]; rintro e w3 ⟨rfl, rfl⟩)) | (go_at_call 27; with_reducible refine (at_int a p ha hp _).mono ?_; rintro e w4 ⟨rfl, hdr⟩))
  have HB := Aside0.mk (below_step hb1 hdr.below)
  have HA := Aside0.mk ha
  clear hb1 hdr ho1 ha z0 z1 h0
  go_wp2
  go_loopg [9, 10, 35] l.length (fun kq v9 v10 v35 w' => ∃ (i : Nat) (n m : Int), i + kq = l.length ∧ v9 = .int .i64 n ∧ v10 = .int .i64 m ∧ v35 = .int .i64 (i : Int) ∧ Aside0 (nx p a (l.drop i) i (n, m) = nx p a l 0 (0, 9223372036854775807)) ∧ Aside0 (Below w.heap.size w w'))
  case atStart => exact ⟨0, 0, 9223372036854775807, by simp, rfl, rfl, rfl, ⟨by simp⟩, HB⟩
  case round =>
    clear HB
    obtain ⟨i, n, m, hi, rfl, rfl, rfl, hI, HB⟩ := hrel
    cases gk with
    | zero =>
      obtain rfl : i = l.length := by omega
      have hI4 := hI.out
      rw [List.drop_length] at hI4
      have e : n = (nx p a l 0 (0, 9223372036854775807)).1 := by rw [← hI4]; simp [nx]
      clear hI hI4
      go_wp2
      go_ret2
      exact ⟨by rw [← e]; rfl, HB.out⟩
    | succ k1 =>
      have hlt : i < l.length := by omega
      have c0 : decide ((i : Int) < (l.length : Int)) = true := by simp; omega
      have p123 : 0 ≤ (i : Int) := by omega
      have q123 : (i : Int) < (l.length : Int) := by omega
      obtain ⟨ad, e, hx⟩ := Kd.at_int (Kd.C_below HC.out HB.out) (i : Int) p123 q123
      cases e
      have hrd : rd l (i : Int) = l[i] := by simp [rd, List.getD_eq_getElem?_getD, hlt]
      rw [hrd, Int.toNat_natCast] at hx
      have hb := hl l[i] (List.getElem_mem hlt)
      have hn := HN.out
      have hI' := hI.out
      rw [List.drop_eq_getElem_cons hlt] at hI'
      simp only [nx] at hI'
      have hw : Aside0 (wrap64 ((i : Int) + 1) = ((i + 1 : Nat) : Int)) := ⟨by unfold wrap64; omega⟩
      have NI := Aside0.mk hI'
      have HBL := Aside0.mk hb
      generalize l[i] = b at *
      replace p123 := eq_true p123
      replace q123 := eq_true q123
      clear hI hI' hn hb
      by_cases hless : wayI a b p < m
      · have NI2 := NI.out
        rw [if_pos hless] at NI2
        have NI3 := Aside0.mk NI2
        have d0 : decide (wayI a b p < m) = true := decide_eq_true hless
        clear NI NI2 hless
        go_wp2_with (first | (go_at_call 27; with_reducible refine (at_int b p HBL.out hp _).mono ?_; rintro e w4 ⟨rfl, hdr⟩) | (go_at_call 12; with_reducible refine (way_int a b p HA.out HBL.out hp _).mono ?_; rintro e w5 ⟨rfl, rfl⟩))
        go_roundg k1
        case rel => exact ⟨i + 1, (i : Int), wayI a b p, by omega, rfl, rfl, by first | rfl | rw [hw.out], NI3, ⟨below_step HB.out hdr.below⟩⟩
        all_goals omega
      · have NI2 := NI.out
        rw [if_neg hless] at NI2
        have NI3 := Aside0.mk NI2
        have d0 : decide (wayI a b p < m) = false := decide_eq_false hless
        clear NI NI2 hless
        go_wp2_with (first | (go_at_call 27; with_reducible refine (at_int b p HBL.out hp _).mono ?_; rintro e w4 ⟨rfl, hdr⟩) | (go_at_call 12; with_reducible refine (way_int a b p HA.out HBL.out hp _).mono ?_; rintro e w5 ⟨rfl, rfl⟩))
        go_roundg k1
        case rel => exact ⟨i + 1, n, m, by omega, rfl, rfl, by first | rfl | rw [hw.out], NI3, ⟨below_step HB.out hdr.below⟩⟩
        all_goals omega
set_option maxRecDepth 100000 in
set_option maxHeartbeats 2000000 in
theorem next_err (a p : Int) (A : Option Addr) (c : Nat) (l : List Int) (w : World) (hC : Kd.C (Kd.int .i64) w A l.length l) (hn : l.length < 140737488355328) (h1 : ¬ (l.length ≠ 0 ∧ mayB p [a] = true ∧ mayB p l = true)) :
    Calls Try.prog 18 #[.int .i64 a, .slice A l.length c, .int .i64 p] w fun e w' => e = .returned (.tuple #[.int .i64 0, .bool false]) ∧ Below w.heap.size w w' := by
  have HC := Aside0.mk hC
  have HN := Aside0.mk hn
  clear hC hn
  by_cases h0 : l.length = 0
  · clear h1
    have z0 : ((l.length : Int) == 0) = true := beq_iff_eq.2 (by omega)
    have z1 : (l.length == 0) = true := beq_iff_eq.2 h0
    clear h0
    go_enter Try.func18, Try.ntmps18
    go_wp2_with (fail)
    go_ret2
    exact ⟨rfl, Below.refl _ _⟩
  · have z0 : ((l.length : Int) == 0) = false := beq_eq_false_iff_ne.2 (by omega)
    have z1 : (l.length == 0) = false := beq_eq_false_iff_ne.2 h0
    cases hm1 : mayB p [a] with
    | false =>
      clear h1 h0
      have N1 := Aside0.mk hm1
      clear hm1
      go_enter Try.func18, Try.ntmps18
      go_wp2_with (first | ((with_reducible refine gate_dst (N := 20) rfl ?_); (try (refine gate_guard (by rfl) ?_; dsimp only)); refine Kd.R_lit (Kd.int .i64) _ 3 ?hg (N := 20) ?hd (xs := ([a] : List Int)) (inner := [.int .i64 a]) (ok := fun _ => True) (okp := fun _ => True) ?hr ?hp (fun _ hk => hk) trivial (Below.refl _ _) (Nat.le_refl _) (by simp) ?_; (case hd => rfl); (case hg => rfl); (case hr => first | (go_simp; done) | (go_simp; rfl)); (case hp => exact (Reps.one (show Kd.M (Kd.int .i64) _ _ _ a [.int .i64 a] from rfl) (Reps.none _ _))); intro v1 w1 ho1 hb1 hg_ hnew_; clear hg_ hnew_; obtain ⟨A1, c1, e1⟩ := Kd.R_slice ho1; subst e1) | (go_at_call 26; (with_reducible refine (may_lit p a A1 c1 _ (Kd.R_reads' ho1).2.2).mono ?_; rw [N1.out]; rintro e w2 ⟨rfl, rfl⟩)))
      go_ret2
      exact ⟨rfl, hb1⟩
    | true =>
      have hm2 : mayB p l = false := by
        cases hm2 : mayB p l with
        | false => rfl
        | true => exact absurd ⟨h0, hm1, hm2⟩ h1
      clear h1 h0
      have N1 := Aside0.mk hm1
      have N2 := Aside0.mk hm2
      clear hm1 hm2
      go_enter Try.func18, Try.ntmps18
      go_wp2_with (first | ((with_reducible refine gate_dst (N := 20) rfl ?_); (try (refine gate_guard (by rfl) ?_; dsimp only)); refine Kd.R_lit (Kd.int .i64) _ 3 ?hg (N := 20) ?hd (xs := ([a] : List Int)) (inner := [.int .i64 a]) (ok := fun _ => True) (okp := fun _ => True) ?hr ?hp (fun _ hk => hk) trivial (Below.refl _ _) (Nat.le_refl _) (by simp) ?_; (case hd => rfl); (case hg => rfl); (case hr => first | (go_simp; done) | (go_simp; rfl)); (case hp => exact (Reps.one (show Kd.M (Kd.int .i64) _ _ _ a [.int .i64 a] from rfl) (Reps.none _ _))); intro v1 w1 ho1 hb1 hg_ hnew_; clear hg_ hnew_; obtain ⟨A1, c1, e1⟩ := Kd.R_slice ho1; subst e1) | (go_at_call 26; first | (with_reducible refine (may_lit p a A1 c1 _ (Kd.R_reads' ho1).2.2).mono ?_; rw [N1.out]; rintro e w2 ⟨rfl, rfl⟩) | (with_reducible refine (may_calls p A c l _ (Kd.C_below HC.out hb1) HN.out).mono ?_; rw [N2.out]; rintro e w3 ⟨rfl, rfl⟩)))
      go_ret2
      exact ⟨rfl, hb1⟩
theorem place_Next.calls (a0 : Int) (A1 : Option Addr) (c1 : Nat) (l1 : List Int) (a2 : Int) (r1 : Int) (r2 : Bool) (w : World) (hr1 : Kd.C (Kd.int .i64) w A1 l1.length l1) (hc1 : l1.length ≤ c1) (h : place_Next.f a0 l1 a2 = some (r1, r2)) :
    Calls Try.prog 18 #[.int .i64 a0, .slice A1 l1.length c1, .int .i64 a2] w fun e w' => e = .returned (.tuple #[.int .i64 r1, .bool r2]) ∧ Below w.heap.size w w' := by
  unfold place_Next.f at h
  by_cases hn : l1.length < 140737488355328
  · rw [if_pos hn] at h
    by_cases hm : l1.length ≠ 0 ∧ mayB a2 [a0] = true ∧ mayB a2 l1 = true
    · rw [if_pos hm] at h
      injection h with h; injection h with h1 h2; subst h1; subst h2
      exact next_calls a0 a2 A1 c1 l1 w hr1 hn hm.1 hm.2.1 hm.2.2
    · rw [if_neg hm] at h
      injection h with h; injection h with h1 h2; subst h1; subst h2
      exact next_err a0 a2 A1 c1 l1 w hr1 hn hm
  · rw [if_neg hn] at h; exact absurd h (by simp)
end Go.Proofs.Ythembklejaabiaa.PL
