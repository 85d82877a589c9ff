import Derived.Test.YthembklejaabiaaExt0
namespace Go.Proofs.Ythembklejaabiaa.PG
open Go.RowKit Go.Proofs.YthembklejaabiaaW.PrintWords Go.Proofs.YthembklejaabiaaW.PrintLast Go.Proofs.YthembklejaabiaaW.PrintMore
open Go.Shelf

attribute [local go_sem] Oper.semAt_some


set_option maxRecDepth 100000 in
set_option maxHeartbeats 2000000 in
/-- The closure of set: for every loop body that keeps what lay below. -/
theorem set1_in (F : Fence) (n : Nat) (h34 : F.fn 44) (h35 : F.fn 45) (hro : F.round = none) (hn : 1 ≤ n) (l Bs n₀ : Nat) (w0 : World) (hn0 : w0.heap.size ≤ n₀) (A : Option Addr) (c : Nat) (zs : List Int) (hC : Kd.C (Kd.int .u8) w0 A zs.length zs) (hf : Fine zs) (J Jx : List Int → World → Prop)
    (hY : ∀ pre x W, J pre W → pre.length < (bitsOf zs).length → YieldAt F (n - 1) Try.prog l #[.int .i64 x] W fun e W' =>
      (e = .returned (.bool true) ∧ J (pre ++ [x]) W' ∧ Below n₀ W W') ∨ (e = .returned (.bool false) ∧ Jx (pre ++ [x]) W'))
    (W : World) (hW : Below n₀ w0 W) (hBs : W.cell? ⟨Bs, 0, none⟩ = some (.slice A zs.length c)) (h0 : J [] W) :
    CallsIn F n Try.prog 44 #[.func (.yield l) #[] #[], .pointer (some ⟨Bs, 0, none⟩)] W fun e W' => (∃ v, e = .returned v) ∧
      ((∃ ys, ys = bitsOf zs ∧ J ys W') ∨ (∃ pre, pre <+: bitsOf zs ∧ Jx pre W')) := by
  have hlen := hf.2
  refine callsIn_of_wp Try.func44 rfl h34 ?_ hro
  simp only [Try.ntmps44, List.size_toArray, List.length_cons, List.length_nil, Nat.reduceAdd, Nat.reduceSub, Array.replicate_succ, Array.replicate_zero, List.push_toArray, List.append_toArray, List.nil_append, List.cons_append]
  gi_wp2
  gi_loopw [3, 4, 7] (fun _ _ i wr => ∃ k : Nat, k ≤ zs.length ∧ i = .int .i64 k ∧ J (bitsOf (zs.take k)) wr ∧ Below n₀ w0 wr)
    (fun _ _ i _ => zs.length - (intOf i).toNat)
  case atStart => exact ⟨0, Nat.zero_le _, rfl, h0, hW⟩
  case round =>
    obtain ⟨k, hk, rfl, hJs, hB⟩ := hrel
    by_cases hlt : k < zs.length
    · have hsp := bitsFrom_split zs k hlt
      have hts := bitsFrom_take_succ zs k hlt
      obtain ⟨hc0, hc1⟩ := hf.at_ k hlt
      have hCk : ∃ ad, A = some ad ∧ wr.cell? (ad.add k) = some (.int .u8 (zs.getD k 0)) := by
        obtain ⟨ad, e, hh⟩ := Kd.at_int hC (k : Int) (by omega) (by omega)
        exact ⟨ad, e, by have := pw_cell_below (hB.mono hn0) hh; simpa [rd] using this⟩
      obtain ⟨ad, rfl, hcell⟩ := hCk
      generalize hz : zs.getD k 0 = z at *
      have Hsp := Lib.hid hsp
      have Hts := Lib.hid hts
      have Hz := Lib.hid hz
      clear hsp hts hz
      gi_wp2
      obtain ⟨wo, rfl⟩ : ∃ wo : World, wo = wr := ⟨_, rfl⟩
      gi_loopw [4] (fun v4 wr => ∃ (q : Int) (dn : List Int), 0 ≤ q ∧ q < 256 ∧ v4 = .int .u8 q ∧ Aside0 ((bits8 z).map (fun t => 8 * (k : Int) + t) = dn ++ (bits8 q).map (fun t => 8 * (k : Int) + t)) ∧ J (bitsOf (zs.take k) ++ dn) wr ∧ Below n₀ w0 wr)
        (fun v4 _ => (intOf v4).toNat)
      case atStart => exact ⟨z, [], hc0, hc1, rfl, ⟨rfl⟩, by simpa using hJs, hB⟩
      case round =>
        obtain ⟨q, dn, hq0, hq1, rfl, hdn, hJs1, hB1⟩ := hrel
        by_cases hq : 0 < q
        · obtain ⟨hst, hn0, hn1, ht0, ht1⟩ := bits8_step q hq hq1
          have hlt2 : (bitsOf (zs.take k) ++ dn).length < (bitsOf zs).length := by
            rw [Hsp.out, hdn.out, hst]; simp
          obtain ⟨fn, tmps, assign, body, hy, hR⟩ := hY _ (8 * (k : Int) + tz8 q) wr hJs1 hlt2
          have Hst := Lib.hid hst
          clear hst
          have hne : (q != 0) = true := by rw [bne_iff_ne]; omega
          gi_wp2_with (gi_at_call 45; refine (tz_in F _ h35 hro q hq0 hq1 _).mono ?_; rintro e w' ⟨rfl, rfl⟩)
          refine hR.mono ?_
          rintro e W3 (⟨rfl, hJ3, hk3⟩ | ⟨rfl, hJx3⟩)
          · gi_wp2
            go_roundw
            case rel => exact ⟨_, dn ++ [8 * (k : Int) + tz8 q], hn0, by omega, rfl, ⟨by rw [hdn.out, Hst.out]; simp⟩, by rw [← List.append_assoc]; exact hJ3, hB1.trans hk3⟩
            case measure => simp [intOf]; omega
          · gi_wp2
            refine bodyPost_ret (results_none rfl _ _ _) rfl ?_
            refine ⟨⟨_, rfl⟩, .inr ⟨_, ?_, hJx3⟩⟩
            rw [Hsp.out, hdn.out, Hst.out]
            simp
        · obtain rfl : q = 0 := by omega
          have hd : (bits8 z).map (fun t => 8 * (k : Int) + t) = dn := by rw [hdn.out, bits8_zero]; simp
          rw [← hd, ← Hts.out] at hJs1
          clear hd hdn
          gi_wp2
          go_roundw
          case rel => exact ⟨k + 1, by omega, by go_num, hJs1, hB1⟩
          case measure => simp [intOf]; omega
    · obtain rfl : k = zs.length := by omega
      rw [List.take_length] at hJs
      gi_wp2
      go_end0
      exact ⟨⟨_, rfl⟩, .inl ⟨_, rfl, hJs⟩⟩
end Go.Proofs.Ythembklejaabiaa.PG
