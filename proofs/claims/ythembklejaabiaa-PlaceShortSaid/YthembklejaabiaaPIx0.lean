import Derived.Test.YthembklejaabiaaPL8
/-! The walk of the law PlaceShort. -/
namespace Go.Proofs.Ythembklejaabiaa.PI
open Go.RowKit Go.Proofs.Ythembklejaabiaa.Fl Go.Proofs.Ythembklejaabiaa.PL Go.Proofs.YthembklejaabiaaW.PrintWords Go.Proofs.YthembklejaabiaaW.PrintLast Go.Proofs.YthembklejaabiaaW.PrintMore
attribute [local go_sem] Oper.semAt_some
structure S23 where
  (f0 f1 f2 : Int)
def k23 : Kd S23 := Kd.iso (Kd.pair (Kd.int .u16) (Kd.pair (Kd.int .u16) (Kd.int .u16))) (fun x : S23 => (x.f0, x.f1, x.f2))
theorem k23_open {w : World} {x : S23} {cs : List Value} (h : k23.K w x cs) : cs = [.int .u16 x.f0, .int .u16 x.f1, .int .u16 x.f2] := by
  obtain ⟨_, _, rfl, rfl, _, _, rfl, rfl, rfl⟩ := h
  exact rfl
def selvedgelaw01_PlaceShort.f (a b c p : Int) : Option Bool := if 0 ≤ a ∧ a < 65536 ∧ 0 ≤ b ∧ b < 65536 ∧ 0 ≤ c ∧ c < 65536 ∧ 0 ≤ p ∧ p < 65536 then some true else none
theorem short_pure (a b c n : Nat) (hn : 0 < n) : apartN (a / n) (a % n) (c / n) (c % n) ≤ apartN (a / n) (a % n) (b / n) (b % n) + apartN (b / n) (b % n) (c / n) (c % n) ∧ apartN (a / n) (a % n) (a / n) (a % n) = 0 ∧ (apartN (a / n) (a % n) (b / n) (b % n) = 0 ↔ a = b) := by
  refine ⟨by unfold apartN; omega, by unfold apartN; omega, ?_, fun h => by subst h; unfold apartN; omega⟩
  intro h
  have h1 : a / n = b / n := by unfold apartN at h; omega
  have h2 : a % n = b % n := by unfold apartN at h; omega
  rw [← Nat.div_add_mod a n, ← Nat.div_add_mod b n, h1, h2]
theorem At_nat (b q : Nat) (hb : b < 1024) (hq : 1 ≤ q ∧ q ≤ 64) (W : World) : Calls Try.prog 10 #[.int .i64 (b : Int), .int .i64 (q : Int)] W fun e w' => e = .returned (.tuple #[.complex .f64 (F ((b / q : Nat) : Int)) (F ((b % q : Nat) : Int)), .int .i64 0]) ∧ Below W.heap.size W w' := by
  have := At_calls (b : Int) (q : Int) W
  unfold atV at this
  rw [if_pos (by simp [mayB, bad]; omega)] at this
  exact this
theorem Way_nat (a b n : Nat) (ha : a < 1024) (hb : b < 1024) (hn : 1 ≤ n ∧ n ≤ 64) (W : World) : Calls Try.prog 12 #[.complex .f64 (F ((a / n : Nat) : Int)) (F ((a % n : Nat) : Int)), .complex .f64 (F ((b / n : Nat) : Int)) (F ((b % n : Nat) : Int))] W fun e w' => e = .returned (.int .i64 (apartN (a / n) (a % n) (b / n) (b % n) : Int)) ∧ w' = W := by
  have h1 : a % n < n := Nat.mod_lt _ (by omega)
  have h2 : b % n < n := Nat.mod_lt _ (by omega)
  have h3 := Nat.div_le_self a n
  have h4 := Nat.div_le_self b n
  exact Way_calls _ _ _ _ (by omega) (by omega) (by omega) (by omega) W
set_option maxRecDepth 100000 in
set_option maxHeartbeats 1000000 in
theorem selvedgelaw01_PlaceShort.calls (a0_0 : Int) (a0_1 : Int) (a0_2 : Int) (a1 : Int) (r : Bool) (w : World) (h : selvedgelaw01_PlaceShort.f a0_0 a0_1 a0_2 a1 = some r) :
    Calls Try.prog 3 #[.agg #[.int .u16 a0_0, .int .u16 a0_1, .int .u16 a0_2], .int .u16 a1] w fun e w' => e = .returned (.bool r) ∧ Below w.heap.size w w' := by
  unfold selvedgelaw01_PlaceShort.f at h
  split at h
  · next hb =>
    obtain rfl := Option.some.inj h
    clear h
    obtain ⟨a, rfl⟩ := Int.eq_ofNat_of_zero_le hb.1
    obtain ⟨b, rfl⟩ := Int.eq_ofNat_of_zero_le hb.2.2.1
    obtain ⟨c, rfl⟩ := Int.eq_ofNat_of_zero_le hb.2.2.2.2.1
    obtain ⟨p, rfl⟩ := Int.eq_ofNat_of_zero_le hb.2.2.2.2.2.2.1
    obtain ⟨x, hx⟩ : ∃ x : Nat, a % 1024 = x := ⟨_, rfl⟩
    obtain ⟨y, hy⟩ : ∃ x : Nat, b % 1024 = x := ⟨_, rfl⟩
    obtain ⟨z, hz⟩ : ∃ x : Nat, c % 1024 = x := ⟨_, rfl⟩
    obtain ⟨n, hn⟩ : ∃ x : Nat, p % 64 + 1 = x := ⟨_, rfl⟩
    have ex : (a : Int) % 1024 = (x : Int) := by omega
    have ey : (b : Int) % 1024 = (y : Int) := by omega
    have ez : (c : Int) % 1024 = (z : Int) := by omega
    have en : (p : Int) % 64 + 1 = (n : Int) := by omega
    have hn1 : 1 ≤ n ∧ n ≤ 64 := by omega
    have ax := At_nat x n (by omega) hn1
    have ay := At_nat y n (by omega) hn1
    have az := At_nat z n (by omega) hn1
    have wxz := Way_nat x z n (by omega) (by omega) hn1
    have wxy := Way_nat x y n (by omega) (by omega) hn1
    have wyz := Way_nat y z n (by omega) (by omega) hn1
    have wxx := Way_nat x x n (by omega) (by omega) hn1
    obtain ⟨s1, s2, s3⟩ := short_pure x y z n (by omega)
    have key : ∃ (x1 x2 y1 y2 z1 z2 : Nat) (dxz dxy dyz dxx : Int), 0 ≤ dxz ∧ dxz ≤ 5000 ∧ 0 ≤ dxy ∧ dxy ≤ 5000 ∧ 0 ≤ dyz ∧ dyz ≤ 5000 ∧ dxz ≤ dxy + dyz ∧ dxx = 0 ∧ (dxy = 0 ↔ x = y) ∧
        (∀ W : World, Calls Try.prog 10 #[.int .i64 (x : Int), .int .i64 (n : Int)] W fun e w' => e = .returned (.tuple #[.complex .f64 x1 x2, .int .i64 0]) ∧ Below W.heap.size W w') ∧
        (∀ W : World, Calls Try.prog 10 #[.int .i64 (y : Int), .int .i64 (n : Int)] W fun e w' => e = .returned (.tuple #[.complex .f64 y1 y2, .int .i64 0]) ∧ Below W.heap.size W w') ∧
        (∀ W : World, Calls Try.prog 10 #[.int .i64 (z : Int), .int .i64 (n : Int)] W fun e w' => e = .returned (.tuple #[.complex .f64 z1 z2, .int .i64 0]) ∧ Below W.heap.size W w') ∧
        (∀ W : World, Calls Try.prog 12 #[.complex .f64 x1 x2, .complex .f64 z1 z2] W fun e w' => e = .returned (.int .i64 dxz) ∧ w' = W) ∧
        (∀ W : World, Calls Try.prog 12 #[.complex .f64 x1 x2, .complex .f64 y1 y2] W fun e w' => e = .returned (.int .i64 dxy) ∧ w' = W) ∧
        (∀ W : World, Calls Try.prog 12 #[.complex .f64 y1 y2, .complex .f64 z1 z2] W fun e w' => e = .returned (.int .i64 dyz) ∧ w' = W) ∧
        (∀ W : World, Calls Try.prog 12 #[.complex .f64 x1 x2, .complex .f64 x1 x2] W fun e w' => e = .returned (.int .i64 dxx) ∧ w' = W) := by
      have b1 : ∀ u v : Nat, u < 1024 → v < 1024 → apartN (u / n) (u % n) (v / n) (v % n) ≤ 5000 := fun u v hu hv => by
        have h1 : u % n < n := Nat.mod_lt _ (by omega)
        have h2 : v % n < n := Nat.mod_lt _ (by omega)
        have h3 := Nat.div_le_self u n
        have h4 := Nat.div_le_self v n
        unfold apartN
        generalize u % n = m1 at h1 ⊢
        generalize v % n = m2 at h2 ⊢
        generalize u / n = m3 at h3 ⊢
        generalize v / n = m4 at h4 ⊢
        omega
      have b2 := b1 x z (by omega) (by omega)
      have b3 := b1 x y (by omega) (by omega)
      have b4 := b1 y z (by omega) (by omega)
      exact ⟨_, _, _, _, _, _, _, _, _, _, by omega, by omega, by omega, by omega, by omega, by omega, by omega, by rw [s2]; rfl, by omega, ax, ay, az, wxz, wxy, wyz, wxx⟩
    clear s1 s2 s3 wxz wxy wyz wxx ax ay az
    obtain ⟨x1, x2, y1, y2, z1, z2, dxz, dxy, dyz, dxx, l1, l2, l3, l4, l5, l6, s1, s2, s3, ax, ay, az, wxz, wxy, wyz, wxx⟩ := key
    have NX : Aside0 ((wrap64 (a : Int)).tmod 1024 = (x : Int)) := ⟨by rw [show wrap64 (a : Int) = a by unfold wrap64; omega, Int.tmod_eq_emod_of_nonneg (by omega)]; omega⟩
    have NY : Aside0 ((wrap64 (b : Int)).tmod 1024 = (y : Int)) := ⟨by rw [show wrap64 (b : Int) = b by unfold wrap64; omega, Int.tmod_eq_emod_of_nonneg (by omega)]; omega⟩
    have NZ : Aside0 ((wrap64 (c : Int)).tmod 1024 = (z : Int)) := ⟨by rw [show wrap64 (c : Int) = c by unfold wrap64; omega, Int.tmod_eq_emod_of_nonneg (by omega)]; omega⟩
    have NN : Aside0 (wrap64 ((wrap64 (p : Int)).tmod 64 + 1) = (n : Int)) := ⟨by rw [show wrap64 (p : Int) = p by unfold wrap64; omega, Int.tmod_eq_emod_of_nonneg (by omega), en]; unfold wrap64; omega⟩
    have HB := Aside0.mk (Below.refl w.heap.size w)
    have L := Aside0.mk (And.intro s1 (And.intro l1 (And.intro l2 (And.intro l3 (And.intro l4 (And.intro l5 l6))))))
    have S3 := Aside0.mk s3
    subst s2
    have AX := Aside0.mk ax
    have AY := Aside0.mk ay
    have AZ := Aside0.mk az
    have WXZ := Aside0.mk wxz
    have WXY := Aside0.mk wxy
    have WYZ := Aside0.mk wyz
    have WXX := Aside0.mk wxx
    clear l1 l2 l3 l4 l5 l6 s1 s3 hx hy hz hn hb hn1 ex ey ez en ax ay az wxz wxy wyz wxx
    go_enter Try.func3, Try.ntmps3
    go_upto_region 1 with (first | ((with_reducible refine gate_dst (N := 2) rfl ?_); refine box_event ?hg (N := 2) ?hd (cs := #[.int .u16 (a : Int), .int .u16 (b : Int), .int .u16 (c : Int)]) (t := 23) ?hr ?_; (case hd => rfl); (case hg => rfl); (case hr => first | (go_simp; done) | (go_simp; rfl)); intro gb hg w5 hbox hb; have HBX := Aside0.mk hb; have HX := Aside0.mk hbox; clear hb hbox hg))
    go_upto_region 2 with (fail)
    simp only [NN.out]
    have q0 : w5.cell? ⟨gb, 0, none⟩ = some (.int .u16 (a : Int)) := (blk_cell HX.out 0).trans rfl
    have q1 : w5.cell? ⟨gb, 1, none⟩ = some (.int .u16 (b : Int)) := (blk_cell HX.out 1).trans rfl
    have q2 : w5.cell? ⟨gb, 2, none⟩ = some (.int .u16 (c : Int)) := (blk_cell HX.out 2).trans rfl
    go_quiet (fail)
    clear q0 q1 q2
    have HX2 := HX
    go_wp2_with (first | (go_at_call 10; first | (rw [NX.out]; with_reducible refine (AX.out _).mono ?_; rintro e w6 ⟨rfl, hb6⟩) | (rw [NY.out]; with_reducible refine (AY.out _).mono ?_; rintro e w7 ⟨rfl, hb7⟩) | (rw [NZ.out]; with_reducible refine (AZ.out _).mono ?_; rintro e w8 ⟨rfl, hb8⟩)) | (go_at_call 11; with_reducible refine (live_calls _).mono ?_; rintro e w9 ⟨rfl, hb9⟩) | (go_at_call 12; first | (with_reducible refine (WXZ.out _).mono ?_; rintro e w10 ⟨rfl, rfl⟩) | (with_reducible refine (WXY.out _).mono ?_; rintro e w10 ⟨rfl, rfl⟩) | (with_reducible refine (WYZ.out _).mono ?_; rintro e w10 ⟨rfl, rfl⟩) | (with_reducible refine (WXX.out _).mono ?_; rintro e w10 ⟨rfl, rfl⟩)))
    · go_ret
      refine ⟨?_, ?_⟩
      · have hv : ((dxy == 0) == ((wrap64 (a : Int)).tmod 1024 == (wrap64 (b : Int)).tmod 1024)) = true := by
          rw [NX.out, NY.out]
          have s3 := S3.out
          by_cases hxy : x = y
          · have h0 := s3.2 hxy
            simp [hxy, h0]
          · have h0 : dxy ≠ 0 := fun hh => hxy (s3.1 hh)
            rw [show (dxy == 0) = false by simpa using h0, show ((x : Int) == (y : Int)) = false by simp; omega]
            rfl
        rw [← hv]
        rfl
      · exact below_step (below_step (below_step (below_step (below_step HBX.out (pw_below_drewN (Below.refl _ _) _)) hb6) hb7) hb8) hb9
    · exfalso
      rename_i h_
      have := L.out
      rw [show wrap64 (dxy + dyz) = dxy + dyz by unfold wrap64; omega] at h_
      omega
  · exact absurd h (by simp)
end Go.Proofs.Ythembklejaabiaa.PI
