import Derived.Test.YthembklejaabiaaSTopTrack
import Derived.Test.YthembklejaabiaaB4
namespace Go.Proofs.Ythembklejaabiaa.Pure
open Go.RowKit Go.Proofs.Ythembklejaabiaa.PL
open Go.Proofs.Ythembklejaabiaa.PG Go.Proofs.YthembklejaabiaaW.PrintWords Go.Proofs.YthembklejaabiaaW.PrintLast Go.Proofs.YthembklejaabiaaW.PrintMore
theorem back_perm (l t : List Int) (hl : Bytes l) (ht : t.Perm (bitsOf l)) : mkL (List.replicate l.length 0) t = (l, 0) := by
  obtain ⟨y, h1, h2, h3, h4⟩ := mkL_ok t (List.replicate l.length 0) (fun y hy => by rw [(List.mem_replicate.1 hy).2]; omega) (fun i hi => by have := (bitsOf_rise l).mem i (ht.mem_iff.1 hi); rw [List.length_replicate]; omega)
  rw [h1]
  congr 1
  refine ext_bits y l h2 hl (by rw [h3, List.length_replicate]) fun j => ?_
  have hj := h4 (j : Int)
  have h0 : bitI (List.replicate l.length 0) (j : Int) = false := by
    unfold bitI bit
    rw [Int.toNat_natCast, List.getD_eq_getElem?_getD, List.getElem?_replicate]
    split <;> simp
  rw [h0, Bool.false_or] at hj
  have e : ∀ z : List Int, bitI z (j : Int) = bit z j := fun z => by simp [bitI]
  rw [e] at hj
  rw [hj]
  have hm := mem_bitsOf l (j : Int)
  rw [e] at hm
  cases hb : bit l j with
  | true => simp [ht.mem_iff, hm.2 hb]
  | false =>
    simp only [decide_eq_false_iff_not]
    intro hc
    rw [hm.1 (ht.mem_iff.1 hc)] at hb
    exact absurd hb (by simp)
theorem track_ev (l : List Int) (hl : Bytes l) (hn : l.length ≤ 12) (a1 a2 : Int) (h1 : 0 ≤ a1 ∧ a1 < 256) (h2 : 0 ≤ a2 ∧ a2 < 256) : Ev (fun k => selvedgetop_TopTrack.j0 k l a1 a2) true := by
  have hlen := bitsOf_len l
  have hin : ∀ t ∈ bitsOf l, 0 ≤ t ∧ t < 96 := fun t ht => by
    have := bitsFrom_mem l 0 t ht
    omega
  have hbl : Bls (bitsOf l) := fun t ht => by have := hin t ht; exact ⟨by omega, by omega⟩
  have ha : Bl a1 := ⟨by omega, by omega⟩
  obtain ⟨p, hp⟩ : ∃ p, wrap64 (Int.tmod (wrap64 a2) 20 + 1) = p := ⟨_, rfl⟩
  have hpt : Tr p := by
    rw [w64 (n := a2) (by omega) (by omega), Int.tmod_eq_emod_of_nonneg (by omega), w64 (by omega) (by omega)] at hp
    exact ⟨by omega, by omega⟩
  have e1 : wrap64 a1 = a1 := w64 (by omega) (by omega)
  have hperm := sw_perm p (bitsOf l).length a1 (bitsOf l) rfl
  have hsl := hperm.length_eq
  refine Ev.step (fun k => by rw [selvedgetop_TopTrack.j0]) ?_
  rw [hp, e1]
  have hL : bitset_List.f l = some (bitsOf l) := by unfold bitset_List.f; rw [if_pos (show Fine l from ⟨hl, by omega⟩)]
  have hS : Ev (fun k => place_Sweep.f k a1 (bitsOf l) p) (sw p (bitsOf l).length a1 (bitsOf l), 0) := ⟨200, fun k hk => by
    show place_Sweep.f k a1 (bitsOf l) p = _
    rw [Sweep_is a1 p (bitsOf l) (by omega) k (by omega), swF, if_pos ⟨mayB_one ha hpt, (mayB_iff p _).2 ⟨hpt, hbl⟩⟩]⟩
  have hM := make_is (l.length : Int) (sw p (bitsOf l).length a1 (bitsOf l)) (by omega) (fun y hy => by have := hin y (hperm.mem_iff.1 hy); omega)
  rw [if_neg (by omega), Int.toNat_natCast, back_perm l _ hl hperm] at hM
  have hC := count_is l hl (by omega)
  simp only [hL, Option.bind_some]
  refine Ev.bind hS (Ev.bind hM ?_)
  simp only [if_true]
  refine Ev.bind hC ?_
  rw [if_pos (by omega)]
  by_cases h0 : (bitsOf l).length = 0
  · have hN : PG.place_Next.f a1 (bitsOf l) p = some (0, false) := by
      unfold PG.place_Next.f PL.place_Next.f
      rw [if_pos (by omega), if_neg (fun h => h.1 h0)]
    simp only [hN, Option.bind_some]
    rw [if_pos (by simp; exact List.eq_nil_of_length_eq_zero h0), if_neg (by decide)]
    exact Ev.now true
  · have hN := Next_is (p := p) ha hpt hbl (by omega) (by omega)
    have hk := (ni_lt p a1 (bitsOf l) (by omega)).2
    simp only [hN, Option.bind_some]
    rw [if_pos (by simp; omega), if_pos trivial, if_pos (by omega), if_pos (by omega), if_pos (by omega)]
    obtain ⟨n, hn'⟩ : ∃ n, (bitsOf l).length = n + 1 := ⟨(bitsOf l).length - 1, by omega⟩
    have hrd : rd (sw p (bitsOf l).length a1 (bitsOf l)) 0 = rd (bitsOf l) (ni p a1 (bitsOf l) : Int) := by
      rw [hn']
      simp only [sw, rd]
      simp
    rw [hrd]
    simpa using Ev.now true
theorem TopTrack : TopTrack_ := by
  intro l0 a1 a2 hm hg g1 g2
  have hl := bytes_of hg
  have b1 := u8b g1
  have b2 := u8b g2
  apply Ev.rounds
  unfold selvedgetop_TopTrack.f
  by_cases h : (l0.length : Int) > 12
  · refine Ev.congr (fun k => ?_) (track_ev (l0.take 12) (hl.take 12) (by simp; omega) a1 a2 b1 b2)
    rw [if_pos h, if_pos (by omega)]
  · refine Ev.congr (fun k => ?_) (track_ev l0 hl (by omega) a1 a2 b1 b2)
    rw [if_neg h]
end Go.Proofs.Ythembklejaabiaa.Pure
