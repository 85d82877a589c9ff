import Derived.Test.YthembklejaabiaaPL8
import Derived.Test.YthembklejaabiaaWGuard
import Derived.Shelf.Abstract
/-! Contracts of the package place: Route. -/
namespace Go.Proofs.Ythembklejaabiaa.PL
open Go.RowKit Go.Proofs.Ythembklejaabiaa.Fl Go.Proofs.YthembklejaabiaaW.PrintWords Go.Proofs.YthembklejaabiaaW.PrintLast Go.Proofs.YthembklejaabiaaW.PrintMore
attribute [local go_sem] Oper.semAt_some
def X (b p : Int) : Nat := F (((b.toNat / p.toNat) : Nat) : Int)
def Y (b p : Int) : Nat := F (((b.toNat % p.toNat) : Nat) : Int)
/-- How far it is from block to block. -/
def wayI (a b p : Int) : Int := (apartN (a.toNat / p.toNat) (a.toNat % p.toNat) (b.toNat / p.toNat) (b.toNat % p.toNat) : Nat)
/-- A block that there is. -/
def Bl (b : Int) : Prop := 0 ≤ b ∧ b < 1024
def Tr (p : Int) : Prop := 1 ≤ p ∧ p ≤ 64
theorem not_bad {b : Int} (h : bad b = false) : Bl b := by simp [bad] at h; exact ⟨by omega, by omega⟩
theorem may_all {p : Int} {l : List Int} (h : mayB p l = true) : Tr p ∧ ∀ b ∈ l, Bl b := by
  simp only [mayB, Bool.and_eq_true, decide_eq_true_eq, Bool.not_eq_true'] at h
  refine ⟨⟨h.1.1, h.1.2⟩, fun b hb => not_bad ?_⟩
  have := h.2
  rw [List.any_eq_false] at this
  simpa using this b hb
theorem at_int (b p : Int) (hb : Bl b) (hp : Tr p) (W : World) : Calls Try.prog 27 #[.int .i64 b, .int .i64 p] W fun e w' => e = .returned (.complex .f64 (X b p) (Y b p)) ∧ Drawn0 W w' := by
  obtain ⟨n, rfl⟩ := Int.eq_ofNat_of_zero_le hb.1
  obtain ⟨q, rfl⟩ := Int.eq_ofNat_of_zero_le (show 0 ≤ p by have := hp.1; omega)
  exact at_calls n q (by have := hb.2; omega) (by have := hp.1; have := hp.2; omega) W
theorem parts {b p : Int} (hb : Bl b) (hp : Tr p) : b.toNat / p.toNat < 1024 ∧ b.toNat % p.toNat < 64 := by
  obtain ⟨n, rfl⟩ := Int.eq_ofNat_of_zero_le hb.1
  obtain ⟨q, rfl⟩ := Int.eq_ofNat_of_zero_le (show 0 ≤ p by have := hp.1; omega)
  have h0 := hb.2
  have h1 := hp.1
  have h2 := hp.2
  have h3 : n % q < q := Nat.mod_lt _ (by omega)
  have h4 := Nat.div_le_self n q
  simp only [Int.toNat_natCast]
  omega
theorem way_int (a b p : Int) (ha : Bl a) (hb : Bl b) (hp : Tr p) (W : World) : Calls Try.prog 12 #[.complex .f64 (X a p) (Y a p), .complex .f64 (X b p) (Y b p)] W fun e w' => e = .returned (.int .i64 (wayI a b p)) ∧ w' = W := by
  have h1 := parts ha hp
  have h2 := parts hb hp
  exact Way_calls _ _ _ _ h1.1 h1.2 h2.1 h2.2 W
theorem wayI_le (a b p : Int) (ha : Bl a) (hb : Bl b) (hp : Tr p) : 0 ≤ wayI a b p ∧ wayI a b p ≤ 1086 := by
  have h1 := parts ha hp
  have h2 := parts hb hp
  unfold wayI apartN
  generalize a.toNat / p.toNat = m1 at h1 ⊢
  generalize a.toNat % p.toNat = m2 at h1 ⊢
  generalize b.toNat / p.toNat = m3 at h2 ⊢
  generalize b.toNat % p.toNat = m4 at h2 ⊢
  omega
theorem may_lit (p a : Int) (A : Option Addr) (c : Nat) (W : World) (h : Kd.C (Kd.int .i64) W A [a].length [a]) : Calls Try.prog 26 #[.int .i64 p, .slice A 1 c] W fun e w' => e = .returned (.bool (mayB p [a])) ∧ w' = W := may_calls p A c [a] W h (by simp)
/-- How far it is to go to blocks. -/
def rt (p : Int) : Int → List Int → Int
  | _, [] => 0
  | a, b :: t => wayI a b p + rt p b t
def place_Route.f (a0 : Int) (l1 : List Int) (a2 : Int) : Option (Int × Int) := if l1.length < 140737488355328 then (if mayB a2 [a0] = true ∧ mayB a2 l1 = true then some (rt a2 a0 l1, 0) else some (0, 2)) else none
set_option maxRecDepth 100000 in
set_option maxHeartbeats 2000000 in
theorem route_calls (a p : Int) (A : Option Addr) (c : Nat) (l : List Int) (w : World) (hC : Kd.C (Kd.int .i64) w A l.length l) (hn : l.length < 140737488355328) (h1 : mayB p [a] = true) (h2 : mayB p l = true) :
    Calls Try.prog 16 #[.int .i64 a, .slice A l.length c, .int .i64 p] w fun e w' => e = .returned (.tuple #[.int .i64 (rt p a l), .int .i64 0]) ∧ Below w.heap.size w w' := by
  have HC := Aside0.mk hC
  have ha := (may_all h1).2 a (by simp)
  have hp := (may_all h1).1
  have hl := (may_all h2).2
  have N1 := Aside0.mk h1
  have N2 := Aside0.mk h2
  have HN := Aside0.mk hn
  clear hC h1 h2 hn
  go_enter Try.func16, Try.ntmps16
  go_upto_region 4 with (first | ((with_reducible refine gate_dst (N := 15) rfl ?_); refine Kd.R_lit (Kd.int .i64) _ 3 ?hg (N := 15) ?hd (xs := ([a] : List Int)) (inner := [.int .i64 a]) (ok := fun _ => True) (okp := fun _ => True) ?hr ?hp (fun _ hk => hk) trivial (Below.refl _ _) (Nat.le_refl _) (by simp) ?_; (case hd => rfl); (case hg => rfl); (case hr => first | (go_simp; done) | (go_simp; rfl)); (case hp => exact (Reps.one (show Kd.M (Kd.int .i64) _ _ _ a [.int .i64 a] from rfl) (Reps.none _ _))); intro v1 w1 ho1 hb1 hg_ hnew_; clear hg_ hnew_; obtain ⟨A1, c1, e1⟩ := Kd.R_slice ho1; subst e1) | (go_at_call 26; first | (with_reducible refine (may_lit p a A1 c1 _ (Kd.R_reads' ho1).2.2).mono ?_; rw [N1.out]; rintro e w2 ⟨rfl, rfl⟩) | (with_reducible refine (may_calls p A c l _ (Kd.C_below HC.out hb1) HN.out).mono ?_; rw [N2.out]; rintro e w3 ⟨rfl, rfl⟩)) | (go_at_call 27; with_reducible refine (at_int a p ha hp _).mono ?_; rintro e w4 ⟨rfl, hdr⟩))
  have HB := Aside0.mk (below_step hb1 hdr.below)
  have HA := Aside0.mk ha
  clear hb1 hdr ho1 ha
  go_wp2
  go_loopg [8, 9, 29] l.length (fun kq v8 v9 v29 w' => ∃ (i : Nat) (n h : Int), i + kq = l.length ∧ v8 = .int .i64 n ∧ v9 = .complex .f64 (X h p) (Y h p) ∧ v29 = .int .i64 (i : Int) ∧ Aside0 (Bl h ∧ 0 ≤ n ∧ n ≤ 1086 * (i : Int) ∧ n + rt p h (l.drop i) = rt p a l) ∧ Aside0 (Below w.heap.size w w'))
  case atStart => exact ⟨0, 0, a, by simp, rfl, rfl, rfl, ⟨HA.out, by omega, by omega, by simp⟩, HB⟩
  case round =>
    clear HB
    obtain ⟨i, n, h, hi, rfl, rfl, rfl, hI, HB⟩ := hrel
    cases gk with
    | zero =>
      obtain rfl : i = l.length := by omega
      have hI4 := hI.out.2.2.2
      rw [List.drop_length] at hI4
      have e : n = rt p a l := by rw [← hI4]; simp [rt]
      clear hI hI4
      go_wp2
      go_ret2
      exact ⟨by rw [← e]; rfl, HB.out⟩
    | succ k1 =>
      have hlt : i < l.length := by omega
      have c0 : decide ((i : Int) < (l.length : Int)) = true := by simp; omega
      have p123 : 0 ≤ (i : Int) := by omega
      have q123 : (i : Int) < (l.length : Int) := by omega
      obtain ⟨ad, e, hx⟩ := Kd.at_int (Kd.C_below HC.out HB.out) (i : Int) p123 q123
      cases e
      have hrd : rd l (i : Int) = l[i] := by simp [rd, List.getD_eq_getElem?_getD, hlt]
      rw [hrd, Int.toNat_natCast] at hx
      have hb := hl l[i] (List.getElem_mem hlt)
      have hI' := hI.out
      have hn := HN.out
      have hwl := wayI_le h l[i] p hI'.1 hb hp
      have hdrop := hI'.2.2.2
      rw [List.drop_eq_getElem_cons hlt] at hdrop
      simp only [rt] at hdrop
      have hw : Aside0 (wrap64 ((i : Int) + 1) = ((i + 1 : Nat) : Int)) := ⟨by unfold wrap64; omega⟩
      have hw2 : Aside0 (wrap64 (n + wayI h l[i] p) = n + wayI h l[i] p) := ⟨by unfold wrap64; omega⟩
      have NI : Aside0 (Bl l[i] ∧ 0 ≤ n + wayI h l[i] p ∧ n + wayI h l[i] p ≤ 1086 * ((i + 1 : Nat) : Int) ∧ n + wayI h l[i] p + rt p l[i] (l.drop (i + 1)) = rt p a l) := ⟨hb, by omega, by omega, by omega⟩
      have HH := Aside0.mk hI'.1
      have HBL := Aside0.mk hb
      generalize l[i] = b at *
      replace p123 := eq_true p123
      replace q123 := eq_true q123
      clear hI hI' hn hwl hdrop hb
      go_wp2_with (first | (go_at_call 27; with_reducible refine (at_int b p HBL.out hp _).mono ?_; rintro e w4 ⟨rfl, hdr⟩) | (go_at_call 12; with_reducible refine (way_int h b p HH.out HBL.out hp _).mono ?_; rintro e w5 ⟨rfl, rfl⟩))
      go_roundg k1
      case rel => exact ⟨i + 1, n + wayI h b p, b, by omega, by first | rfl | rw [hw2.out], rfl, by first | rfl | rw [hw.out], NI, ⟨below_step HB.out hdr.below⟩⟩
      all_goals omega
set_option maxRecDepth 100000 in
set_option maxHeartbeats 2000000 in
theorem route_err (a p : Int) (A : Option Addr) (c : Nat) (l : List Int) (w : World) (hC : Kd.C (Kd.int .i64) w A l.length l) (hn : l.length < 140737488355328) (h1 : ¬ (mayB p [a] = true ∧ mayB p l = true)) :
    Calls Try.prog 16 #[.int .i64 a, .slice A l.length c, .int .i64 p] w fun e w' => e = .returned (.tuple #[.int .i64 0, .int .i64 2]) ∧ Below w.heap.size w w' := by
  have HC := Aside0.mk hC
  have HN := Aside0.mk hn
  clear hC hn
  cases hm1 : mayB p [a] with
  | false =>
    clear h1
    have N1 := Aside0.mk hm1
    clear hm1
    go_enter Try.func16, Try.ntmps16
    go_wp2_with (first | ((with_reducible refine gate_dst (N := 15) rfl ?_); refine Kd.R_lit (Kd.int .i64) _ 3 ?hg (N := 15) ?hd (xs := ([a] : List Int)) (inner := [.int .i64 a]) (ok := fun _ => True) (okp := fun _ => True) ?hr ?hp (fun _ hk => hk) trivial (Below.refl _ _) (Nat.le_refl _) (by simp) ?_; (case hd => rfl); (case hg => rfl); (case hr => first | (go_simp; done) | (go_simp; rfl)); (case hp => exact (Reps.one (show Kd.M (Kd.int .i64) _ _ _ a [.int .i64 a] from rfl) (Reps.none _ _))); intro v1 w1 ho1 hb1 hg_ hnew_; clear hg_ hnew_; obtain ⟨A1, c1, e1⟩ := Kd.R_slice ho1; subst e1) | (go_at_call 26; (with_reducible refine (may_lit p a A1 c1 _ (Kd.R_reads' ho1).2.2).mono ?_; rw [N1.out]; rintro e w2 ⟨rfl, rfl⟩)))
    go_ret2
    exact ⟨rfl, hb1⟩
  | true =>
    have hm2 : mayB p l = false := by
      cases hm2 : mayB p l with
      | false => rfl
      | true => exact absurd ⟨hm1, hm2⟩ h1
    clear h1
    have N1 := Aside0.mk hm1
    have N2 := Aside0.mk hm2
    clear hm1 hm2
    go_enter Try.func16, Try.ntmps16
    go_wp2_with (first | ((with_reducible refine gate_dst (N := 15) rfl ?_); refine Kd.R_lit (Kd.int .i64) _ 3 ?hg (N := 15) ?hd (xs := ([a] : List Int)) (inner := [.int .i64 a]) (ok := fun _ => True) (okp := fun _ => True) ?hr ?hp (fun _ hk => hk) trivial (Below.refl _ _) (Nat.le_refl _) (by simp) ?_; (case hd => rfl); (case hg => rfl); (case hr => first | (go_simp; done) | (go_simp; rfl)); (case hp => exact (Reps.one (show Kd.M (Kd.int .i64) _ _ _ a [.int .i64 a] from rfl) (Reps.none _ _))); intro v1 w1 ho1 hb1 hg_ hnew_; clear hg_ hnew_; obtain ⟨A1, c1, e1⟩ := Kd.R_slice ho1; subst e1) | (go_at_call 26; first | (with_reducible refine (may_lit p a A1 c1 _ (Kd.R_reads' ho1).2.2).mono ?_; rw [N1.out]; rintro e w2 ⟨rfl, rfl⟩) | (with_reducible refine (may_calls p A c l _ (Kd.C_below HC.out hb1) HN.out).mono ?_; rw [N2.out]; rintro e w3 ⟨rfl, rfl⟩)))
    go_ret2
    exact ⟨rfl, hb1⟩
theorem place_Route.calls (a0 : Int) (A1 : Option Addr) (c1 : Nat) (l1 : List Int) (a2 : Int) (r1 : Int) (r2 : Int) (w : World) (hr1 : Kd.C (Kd.int .i64) w A1 l1.length l1) (hc1 : l1.length ≤ c1) (h : place_Route.f a0 l1 a2 = some (r1, r2)) :
    Calls Try.prog 16 #[.int .i64 a0, .slice A1 l1.length c1, .int .i64 a2] w fun e w' => e = .returned (.tuple #[.int .i64 r1, .int .i64 r2]) ∧ Below w.heap.size w w' := by
  unfold place_Route.f at h
  by_cases hn : l1.length < 140737488355328
  · rw [if_pos hn] at h
    by_cases hm : mayB a2 [a0] = true ∧ mayB a2 l1 = true
    · rw [if_pos hm] at h
      injection h with h; injection h with h1 h2; subst h1; subst h2
      exact route_calls a0 a2 A1 c1 l1 w hr1 hn hm.1 hm.2
    · rw [if_neg hm] at h
      injection h with h; injection h with h1 h2; subst h1; subst h2
      exact route_err a0 a2 A1 c1 l1 w hr1 hn hm
  · rw [if_neg hn] at h; exact absurd h (by simp)
end Go.Proofs.Ythembklejaabiaa.PL
/-! Contracts of the package place: Next. -/
namespace Go.Proofs.Ythembklejaabiaa.PL
open Go.RowKit Go.Proofs.Ythembklejaabiaa.Fl Go.Proofs.YthembklejaabiaaW.PrintWords Go.Proofs.YthembklejaabiaaW.PrintLast Go.Proofs.YthembklejaabiaaW.PrintMore
attribute [local go_sem] Oper.semAt_some
/-- The nearest one behind some: its place, how far it is. -/
def nx (p a : Int) : List Int → Nat → Int × Int → Int × Int
  | [], _, s => s
  | b :: t, i, s => nx p a t (i + 1) (if wayI a b p < s.2 then ((i : Int), wayI a b p) else s)
def place_Next.f (a0 : Int) (l1 : List Int) (a2 : Int) : Option (Int × Bool) := if l1.length < 140737488355328 then (if l1.length ≠ 0 ∧ mayB a2 [a0] = true ∧ mayB a2 l1 = true then some ((nx a2 a0 l1 0 (0, 9223372036854775807)).1, true) else some (0, false)) else none
set_option maxRecDepth 100000 in
set_option maxHeartbeats 2000000 in
theorem next_calls (a p : Int) (A : Option Addr) (c : Nat) (l : List Int) (w : World) (hC : Kd.C (Kd.int .i64) w A l.length l) (hn : l.length < 140737488355328) (h0 : l.length ≠ 0) (h1 : mayB p [a] = true) (h2 : mayB p l = true) :
    Calls Try.prog 18 #[.int .i64 a, .slice A l.length c, .int .i64 p] w fun e w' => e = .returned (.tuple #[.int .i64 (nx p a l 0 (0, 9223372036854775807)).1, .bool true]) ∧ Below w.heap.size w w' := by
  have HC := Aside0.mk hC
  have ha := (may_all h1).2 a (by simp)
  have hp := (may_all h1).1
  have hl := (may_all h2).2
  have N1 := Aside0.mk h1
  have N2 := Aside0.mk h2
  have HN := Aside0.mk hn
  have z0 : ((l.length : Int) == 0) = false := beq_eq_false_iff_ne.2 (by omega)
  have z1 : (l.length == 0) = false := beq_eq_false_iff_ne.2 h0
  clear hC h1 h2 hn
  go_enter Try.func18, Try.ntmps18
  go_upto_region 5 with (first | ((with_reducible refine gate_dst (N := 20) rfl ?_); (try (refine gate_guard (by rfl) ?_; dsimp only)); refine Kd.R_lit (Kd.int .i64) _ 3 ?hg (N := 20) ?hd (xs := ([a] : List Int)) (inner := [.int .i64 a]) (ok := fun _ => True) (okp := fun _ => True) ?hr ?hp (fun _ hk => hk) trivial (Below.refl _ _) (Nat.le_refl _) (by simp) ?_; (case hd => rfl); (case hg => rfl); (case hr => first | (go_simp; done) | (go_simp; rfl)); (case hp => exact (Reps.one (show Kd.M (Kd.int .i64) _ _ _ a [.int .i64 a] from rfl) (Reps.none _ _))); intro v1 w1 ho1 hb1 hg_ hnew_; clear hg_ hnew_; obtain ⟨A1, c1, e1⟩ := Kd.R_slice ho1; subst e1) | (go_at_call 26; first | (with_reducible refine (may_lit p a A1 c1 _ (Kd.R_reads' ho1).2.2).mono ?_; rw [N1.out]; rintro e w2 ⟨rfl, rfl⟩) | (with_reducible refine (may_calls p A c l _ (Kd.C_below HC.out hb1) HN.out).mono ?_; rw [N2.out]; rintro e w3 ⟨rfl, rfl⟩)) | (go_at_call 27; with_reducible refine (at_int a p ha hp _).mono ?_; rintro e w4 ⟨rfl, hdr⟩))
  have HB := Aside0.mk (below_step hb1 hdr.below)
  have HA := Aside0.mk ha
  clear hb1 hdr ho1 ha z0 z1 h0
  go_wp2
  go_loopg [9, 10, 35] l.length (fun kq v9 v10 v35 w' => ∃ (i : Nat) (n m : Int), i + kq = l.length ∧ v9 = .int .i64 n ∧ v10 = .int .i64 m ∧ v35 = .int .i64 (i : Int) ∧ Aside0 (nx p a (l.drop i) i (n, m) = nx p a l 0 (0, 9223372036854775807)) ∧ Aside0 (Below w.heap.size w w'))
  case atStart => exact ⟨0, 0, 9223372036854775807, by simp, rfl, rfl, rfl, ⟨by simp⟩, HB⟩
  case round =>
    clear HB
    obtain ⟨i, n, m, hi, rfl, rfl, rfl, hI, HB⟩ := hrel
    cases gk with
    | zero =>
      obtain rfl : i = l.length := by omega
      have hI4 := hI.out
      rw [List.drop_length] at hI4
      have e : n = (nx p a l 0 (0, 9223372036854775807)).1 := by rw [← hI4]; simp [nx]
      clear hI hI4
      go_wp2
      go_ret2
      exact ⟨by rw [← e]; rfl, HB.out⟩
    | succ k1 =>
      have hlt : i < l.length := by omega
      have c0 : decide ((i : Int) < (l.length : Int)) = true := by simp; omega
      have p123 : 0 ≤ (i : Int) := by omega
      have q123 : (i : Int) < (l.length : Int) := by omega
      obtain ⟨ad, e, hx⟩ := Kd.at_int (Kd.C_below HC.out HB.out) (i : Int) p123 q123
      cases e
      have hrd : rd l (i : Int) = l[i] := by simp [rd, List.getD_eq_getElem?_getD, hlt]
      rw [hrd, Int.toNat_natCast] at hx
      have hb := hl l[i] (List.getElem_mem hlt)
      have hn := HN.out
      have hI' := hI.out
      rw [List.drop_eq_getElem_cons hlt] at hI'
      simp only [nx] at hI'
      have hw : Aside0 (wrap64 ((i : Int) + 1) = ((i + 1 : Nat) : Int)) := ⟨by unfold wrap64; omega⟩
      have NI := Aside0.mk hI'
      have HBL := Aside0.mk hb
      generalize l[i] = b at *
      replace p123 := eq_true p123
      replace q123 := eq_true q123
      clear hI hI' hn hb
      by_cases hless : wayI a b p < m
      · have NI2 := NI.out
        rw [if_pos hless] at NI2
        have NI3 := Aside0.mk NI2
        have d0 : decide (wayI a b p < m) = true := decide_eq_true hless
        clear NI NI2 hless
        go_wp2_with (first | (go_at_call 27; with_reducible refine (at_int b p HBL.out hp _).mono ?_; rintro e w4 ⟨rfl, hdr⟩) | (go_at_call 12; with_reducible refine (way_int a b p HA.out HBL.out hp _).mono ?_; rintro e w5 ⟨rfl, rfl⟩))
        go_roundg k1
        case rel => exact ⟨i + 1, (i : Int), wayI a b p, by omega, rfl, rfl, by first | rfl | rw [hw.out], NI3, ⟨below_step HB.out hdr.below⟩⟩
        all_goals omega
      · have NI2 := NI.out
        rw [if_neg hless] at NI2
        have NI3 := Aside0.mk NI2
        have d0 : decide (wayI a b p < m) = false := decide_eq_false hless
        clear NI NI2 hless
        go_wp2_with (first | (go_at_call 27; with_reducible refine (at_int b p HBL.out hp _).mono ?_; rintro e w4 ⟨rfl, hdr⟩) | (go_at_call 12; with_reducible refine (way_int a b p HA.out HBL.out hp _).mono ?_; rintro e w5 ⟨rfl, rfl⟩))
        go_roundg k1
        case rel => exact ⟨i + 1, n, m, by omega, rfl, rfl, by first | rfl | rw [hw.out], NI3, ⟨below_step HB.out hdr.below⟩⟩
        all_goals omega
set_option maxRecDepth 100000 in
set_option maxHeartbeats 2000000 in
theorem next_err (a p : Int) (A : Option Addr) (c : Nat) (l : List Int) (w : World) (hC : Kd.C (Kd.int .i64) w A l.length l) (hn : l.length < 140737488355328) (h1 : ¬ (l.length ≠ 0 ∧ mayB p [a] = true ∧ mayB p l = true)) :
    Calls Try.prog 18 #[.int .i64 a, .slice A l.length c, .int .i64 p] w fun e w' => e = .returned (.tuple #[.int .i64 0, .bool false]) ∧ Below w.heap.size w w' := by
  have HC := Aside0.mk hC
  have HN := Aside0.mk hn
  clear hC hn
  by_cases h0 : l.length = 0
  · clear h1
    have z0 : ((l.length : Int) == 0) = true := beq_iff_eq.2 (by omega)
    have z1 : (l.length == 0) = true := beq_iff_eq.2 h0
    clear h0
    go_enter Try.func18, Try.ntmps18
    go_wp2_with (fail)
    go_ret2
    exact ⟨rfl, Below.refl _ _⟩
  · have z0 : ((l.length : Int) == 0) = false := beq_eq_false_iff_ne.2 (by omega)
    have z1 : (l.length == 0) = false := beq_eq_false_iff_ne.2 h0
    cases hm1 : mayB p [a] with
    | false =>
      clear h1 h0
      have N1 := Aside0.mk hm1
      clear hm1
      go_enter Try.func18, Try.ntmps18
      go_wp2_with (first | ((with_reducible refine gate_dst (N := 20) rfl ?_); (try (refine gate_guard (by rfl) ?_; dsimp only)); refine Kd.R_lit (Kd.int .i64) _ 3 ?hg (N := 20) ?hd (xs := ([a] : List Int)) (inner := [.int .i64 a]) (ok := fun _ => True) (okp := fun _ => True) ?hr ?hp (fun _ hk => hk) trivial (Below.refl _ _) (Nat.le_refl _) (by simp) ?_; (case hd => rfl); (case hg => rfl); (case hr => first | (go_simp; done) | (go_simp; rfl)); (case hp => exact (Reps.one (show Kd.M (Kd.int .i64) _ _ _ a [.int .i64 a] from rfl) (Reps.none _ _))); intro v1 w1 ho1 hb1 hg_ hnew_; clear hg_ hnew_; obtain ⟨A1, c1, e1⟩ := Kd.R_slice ho1; subst e1) | (go_at_call 26; (with_reducible refine (may_lit p a A1 c1 _ (Kd.R_reads' ho1).2.2).mono ?_; rw [N1.out]; rintro e w2 ⟨rfl, rfl⟩)))
      go_ret2
      exact ⟨rfl, hb1⟩
    | true =>
      have hm2 : mayB p l = false := by
        cases hm2 : mayB p l with
        | false => rfl
        | true => exact absurd ⟨h0, hm1, hm2⟩ h1
      clear h1 h0
      have N1 := Aside0.mk hm1
      have N2 := Aside0.mk hm2
      clear hm1 hm2
      go_enter Try.func18, Try.ntmps18
      go_wp2_with (first | ((with_reducible refine gate_dst (N := 20) rfl ?_); (try (refine gate_guard (by rfl) ?_; dsimp only)); refine Kd.R_lit (Kd.int .i64) _ 3 ?hg (N := 20) ?hd (xs := ([a] : List Int)) (inner := [.int .i64 a]) (ok := fun _ => True) (okp := fun _ => True) ?hr ?hp (fun _ hk => hk) trivial (Below.refl _ _) (Nat.le_refl _) (by simp) ?_; (case hd => rfl); (case hg => rfl); (case hr => first | (go_simp; done) | (go_simp; rfl)); (case hp => exact (Reps.one (show Kd.M (Kd.int .i64) _ _ _ a [.int .i64 a] from rfl) (Reps.none _ _))); intro v1 w1 ho1 hb1 hg_ hnew_; clear hg_ hnew_; obtain ⟨A1, c1, e1⟩ := Kd.R_slice ho1; subst e1) | (go_at_call 26; first | (with_reducible refine (may_lit p a A1 c1 _ (Kd.R_reads' ho1).2.2).mono ?_; rw [N1.out]; rintro e w2 ⟨rfl, rfl⟩) | (with_reducible refine (may_calls p A c l _ (Kd.C_below HC.out hb1) HN.out).mono ?_; rw [N2.out]; rintro e w3 ⟨rfl, rfl⟩)))
      go_ret2
      exact ⟨rfl, hb1⟩
theorem place_Next.calls (a0 : Int) (A1 : Option Addr) (c1 : Nat) (l1 : List Int) (a2 : Int) (r1 : Int) (r2 : Bool) (w : World) (hr1 : Kd.C (Kd.int .i64) w A1 l1.length l1) (hc1 : l1.length ≤ c1) (h : place_Next.f a0 l1 a2 = some (r1, r2)) :
    Calls Try.prog 18 #[.int .i64 a0, .slice A1 l1.length c1, .int .i64 a2] w fun e w' => e = .returned (.tuple #[.int .i64 r1, .bool r2]) ∧ Below w.heap.size w w' := by
  unfold place_Next.f at h
  by_cases hn : l1.length < 140737488355328
  · rw [if_pos hn] at h
    by_cases hm : l1.length ≠ 0 ∧ mayB a2 [a0] = true ∧ mayB a2 l1 = true
    · rw [if_pos hm] at h
      injection h with h; injection h with h1 h2; subst h1; subst h2
      exact next_calls a0 a2 A1 c1 l1 w hr1 hn hm.1 hm.2.1 hm.2.2
    · rw [if_neg hm] at h
      injection h with h; injection h with h1 h2; subst h1; subst h2
      exact next_err a0 a2 A1 c1 l1 w hr1 hn hm
  · rw [if_neg hn] at h; exact absurd h (by simp)
end Go.Proofs.Ythembklejaabiaa.PL
/-! The contract of slices.Clone over ints. -/
namespace Go.Proofs.Ythembklejaabiaa.PL
open Go.RowKit Go.Proofs.YthembklejaabiaaW.PrintWords Go.Proofs.YthembklejaabiaaW.PrintLast Go.Proofs.YthembklejaabiaaW.PrintMore
open Go.Shelf
attribute [local go_sem] Oper.semAt_some
theorem info3 : (Try.prog.info? 3).map (fun i => (i.zero, i.size, i.bytes)) = some (some (.int .i64 0), 1, 8) := by kernel_rfl
def slices_Clone___int_int.f (l0 : List Int) : Option (List Int) := if l0.length < 17592186044416 then some l0 else none
set_option maxHeartbeats 1000000 in
theorem slices_Clone___int_int.calls (A0 : Option Addr) (c0 : Nat) (l0 : List Int) (r : List Int) (w : World) (hr0 : Kd.C (Kd.int .i64) w A0 l0.length l0) (hc0 : l0.length ≤ c0) (h : slices_Clone___int_int.f l0 = some r) :
    Calls Try.prog 34 #[.slice A0 l0.length c0] w fun e w' => ∃ v0_ : Value, e = .returned (v0_) ∧ Kd.R (Kd.int .i64) 3 w' w.heap.size (fun _ => True) v0_ r ∧ Below w.heap.size w w' := by
  unfold slices_Clone___int_int.f at h
  by_cases hl : l0.length < 17592186044416
  · rw [if_pos hl] at h
    obtain rfl := Option.some.inj h
    have heq := Lib.run_eql_slice_nil (P := Try.prog) w 39 3 A0 l0.length c0 0 0 Try.underlying39
    have HR0 := Aside0.mk hr0
    have LM := Aside0.mk hl
    have HB := Aside0.mk (Below.refl w.heap.size w)
    clear h hr0 hl hc0
    cases A0 with
    | none =>
      replace heq : (binOp .eql 39 (.slice none 0 c0) (.slice none 0 0)).run Try.prog w = .ok (.bool true) w := by
        have e : l0.length = 0 := by
          rcases Nat.eq_zero_or_pos l0.length with h | h
          · exact h
          · obtain ⟨ad, e, _⟩ := HR0.out.2.2 h
            exact absurd e (by simp)
        rw [e] at heq; exact heq
      have h0 : l0 = [] := by
        rcases Nat.eq_zero_or_pos l0.length with h | h
        · exact List.eq_nil_of_length_eq_zero h
        · obtain ⟨ad, e, _⟩ := HR0.out.2.2 h
          exact absurd e (by simp)
      subst h0
      go_enter Try.func34, Try.ntmps34
      go_wp2
      go_ret
      exact ⟨_, rfl, Kd.R_nil _ _ _ _ _, HB.out⟩
    | some ad =>
      replace heq : (binOp .eql 39 (.slice (some ad) l0.length c0) (.slice none 0 0)).run Try.prog w = .ok (.bool false) w := heq
      go_enter Try.func34, Try.ntmps34
      go_wp2_with (first | ((with_reducible refine gate_dst (N := 5) rfl ?_); refine Kd.R_lit (Kd.int .i64) _ 3 ?hg (N := 5) ?hd (xs := ([] : List Int)) (inner := []) (ok := fun _ => True) (okp := fun _ => True) ?hr ?hp (fun _ hk => hk) trivial (Below.refl _ _) (Nat.le_refl _) (by simp) ?_; (case hd => rfl); (case hg => rfl); (case hr => first | (go_simp; done) | (go_simp; rfl)); (case hp => exact (Reps.none _ _)); intro v1 w1 ho1 hb1 hg_ hnew_; clear hg_ hnew_) | ((with_reducible refine gate_builtin (b := .append) (xs := #[.tmp 5, .tmp 6]) rfl ?_); at_builtin; refine Kd.R_append_rows (Kd.int .i64) (w0 := w) w.heap.size rfl (.tmp 5) (.tmp 6) 39 3 (.int .i64 0) 8 rfl Try.underlying39 info3 rfl (by decide) (by omega) v1 [] l0 _ _ _ (fun _ => True) (fun _ => False) rfl rfl ho1 (Kd.C_below HR0.out hb1) (fun _ _ h => h) (fun _ h => h.elim) (fun _ _ => trivial) hb1 hb1.size ?aL ?_; (case aL => have := LM.out; simp; omega); intro v2 w2 ho hb hg hat))
      go_ret
      exact ⟨_, rfl, by simpa using ho, hb⟩
  · rw [if_neg hl] at h
    exact absurd h (by simp)
end Go.Proofs.Ythembklejaabiaa.PL
