import Derived.Test.YthembklejaabiaaPL4
import Derived.Test.YthembklejaabiaaWRepsOne
import Derived.Test.YthembklejaabiaaWNEv
import Derived.Test.YthembklejaabiaaWEqStruct
/-! Contracts of the package place: At. -/
namespace Go.Proofs.Ythembklejaabiaa.PL
open Go.RowKit Go.Proofs.Ythembklejaabiaa.Fl Go.Proofs.YthembklejaabiaaW.PrintWords Go.Proofs.YthembklejaabiaaW.PrintLast Go.Proofs.YthembklejaabiaaW.PrintMore
attribute [local go_sem] Oper.semAt_some
/-- What At answers: the place's parts, the error. -/
def atV (b p : Int) : Nat × Nat × Int := if mayB p [b] = true then (F (((b.toNat / p.toNat) : Nat) : Int), F (((b.toNat % p.toNat) : Nat) : Int), 0) else (0, 0, 2)
theorem may_one {b p : Int} (h : mayB p [b] = true) : 0 ≤ b ∧ b < 1024 ∧ 1 ≤ p ∧ p ≤ 64 := by
  simp [mayB, bad] at h
  omega
set_option maxRecDepth 100000 in
set_option maxHeartbeats 1000000 in
theorem At_calls (b p : Int) (w : World) : Calls Try.prog 10 #[.int .i64 b, .int .i64 p] w fun e w' => e = .returned (.tuple #[.complex .f64 (atV b p).1 (atV b p).2.1, .int .i64 (atV b p).2.2]) ∧ Below w.heap.size w w' := by
  have HB := Aside0.mk (Below.refl w.heap.size w)
  unfold atV
  cases hm : mayB p [b] with
  | true =>
    obtain ⟨h0, h1, h2, h3⟩ := may_one hm
    obtain ⟨n, rfl⟩ := Int.eq_ofNat_of_zero_le h0
    obtain ⟨q, rfl⟩ := Int.eq_ofNat_of_zero_le (show 0 ≤ p by omega)
    rw [if_pos rfl]
    go_enter Try.func10, Try.ntmps10
    go_wp2_with (first | ((with_reducible refine gate_dst (N := 8) rfl ?_); refine Kd.R_lit (Kd.int .i64) _ 3 ?hg (N := 8) ?hd (xs := ([(n : Int)] : List Int)) (inner := [.int .i64 (n : Int)]) (ok := fun _ => True) (okp := fun _ => True) ?hr ?hp (fun _ hk => hk) trivial (Below.refl _ _) (Nat.le_refl _) (by simp) ?_; (case hd => rfl); (case hg => rfl); (case hr => first | (go_simp; done) | (go_simp; rfl)); (case hp => exact (Reps.one (show Kd.M (Kd.int .i64) _ _ _ (n : Int) [.int .i64 (n : Int)] from rfl) (Reps.none _ _))); intro v1 w1 ho1 hb1 hg_ hnew_; clear hg_ hnew_; obtain ⟨A1, c1, e1⟩ := Kd.R_slice ho1; subst e1) | (go_at_call 26; go_loud (refine (may_calls (q : Int) A1 c1 [(n : Int)] _ (Kd.R_reads' ho1).2.2 (by simp)).mono ?_; rw [hm]; rintro e w' ⟨rfl, rfl⟩)) | (go_at_call 27; with_reducible refine (at_calls n q (by omega) (by omega) _).mono ?_; rintro e w' ⟨rfl, hdr⟩))
    go_ret2

    exact ⟨rfl, below_step hb1 hdr.below⟩
  | false =>
    rw [if_neg (by simp)]
    go_enter Try.func10, Try.ntmps10
    go_wp2_with (first | ((with_reducible refine gate_dst (N := 8) rfl ?_); refine Kd.R_lit (Kd.int .i64) _ 3 ?hg (N := 8) ?hd (xs := ([b] : List Int)) (inner := [.int .i64 b]) (ok := fun _ => True) (okp := fun _ => True) ?hr ?hp (fun _ hk => hk) trivial (Below.refl _ _) (Nat.le_refl _) (by simp) ?_; (case hd => rfl); (case hg => rfl); (case hr => first | (go_simp; done) | (go_simp; rfl)); (case hp => exact (Reps.one (show Kd.M (Kd.int .i64) _ _ _ b [.int .i64 b] from rfl) (Reps.none _ _))); intro v1 w1 ho1 hb1 hg_ hnew_; clear hg_ hnew_; obtain ⟨A1, c1, e1⟩ := Kd.R_slice ho1; subst e1) | (go_at_call 26; go_loud (refine (may_calls p A1 c1 [b] _ (Kd.R_reads' ho1).2.2 (by simp)).mono ?_; rw [hm]; rintro e w' ⟨rfl, rfl⟩)))
    go_ret2
    exact ⟨rfl, hb1⟩
end Go.Proofs.Ythembklejaabiaa.PL
