import Derived.Test.YtehjmmedghcndaaCJ
import Derived.Test.YtehjmmedghcndaaQB0
/-! A group's bytes by the reference, in plain Lean. -/
namespace Go.Proofs.Ytehjmmedghcndaa.PG
open Go.RowKit Go.Proofs.YtehjmmedghcndaaW.PrintWords Go.Proofs.YtehjmmedghcndaaW.PrintLast Go.Proofs.YtehjmmedghcndaaW.PrintMore
theorem mid_set (P X Q : List Int) {j : Nat} (hj : j < X.length) (v : Int) : (P ++ X ++ Q).set (P.length + j) v = P ++ X.set j v ++ Q := by
 rw [List.append_assoc, List.set_append_right _ _ (by omega), Nat.add_sub_cancel_left, List.set_append_left _ _ hj, List.append_assoc]
theorem mid_rd (P X Q : List Int) {j : Nat} (hj : j < X.length) : rd (P ++ X ++ Q) ((P.length + j : Nat) : Int) = X.getD j 0 := by
 unfold rd
 rw [Int.toNat_natCast, List.getD_eq_getElem?_getD, List.getD_eq_getElem?_getD, List.append_assoc, List.getElem?_append_right (by omega), Nat.add_sub_cancel_left, List.getElem?_append_left hj]
/-- One number's bit set in bytes in the middle. -/
theorem mid_bit (P X Q : List Int) (hX : Bt.Bytes X) {n : Int} (h0 : 0 ≤ n) (h1 : n / 8 < (X.length : Int)) (hP : P.length ≤ 1000) (hn : n ≤ 1000) :
  wrap64 ((P.length : Int) + wrap64 (Int.tdiv n 8)) = ((P.length + (n / 8).toNat : Nat) : Int) ∧
  (P ++ X ++ Q).set (((P.length + (n / 8).toNat : Nat) : Int)).toNat (Go.bits .or .u8 (rd (P ++ X ++ Q) (((P.length + (n / 8).toNat : Nat) : Int))) (shl .u8 1 (Int.tmod n 8))) = P ++ (Bt.setL X n true).1 ++ Q := by
 have hd := Bt.div8 n h0 (by omega)
 refine ⟨by rw [hd]; unfold wrap64; omega, ?_⟩
 have hj : (n / 8).toNat < X.length := by omega
 obtain ⟨c, hc, e2, e3⟩ := Bt.nat_at X hX n h0
 obtain ⟨m, hm, hm8⟩ : ∃ m : Nat, n % 8 = (m : Int) ∧ m < 8 := ⟨(n % 8).toNat, by omega, by omega⟩
 have e4 : X.getD (n / 8).toNat 0 = (c : Int) := by
  rw [show n / 8 = (((n / 8).toNat : Nat) : Int) by omega] at e2
  unfold rd at e2
  rw [Int.toNat_natCast] at e2
  exact e2
 rw [Int.toNat_natCast, mid_rd P X Q hj, e4, Int.tmod_eq_emod_of_nonneg h0, hm, Bt.set_byte_on c hc m hm8, mid_set P X Q hj, Bt.setL_ok X n true h0 h1, e3, hm, Int.toNat_natCast]
theorem renc_l0 (l5 l6 : List Int) (a0 a1 a2 a3 a4 : Int) (h5 : l5.length ≤ 1000) (h : ∀ n ∈ l5, 0 ≤ n ∧ n < 64) (P Q : List Int) (hP : P.length = 6) (hQ : Q.length = 18) : ∀ (q i : Nat) (X : List Int) (k : Nat), i + q = l5.length → Bt.Bytes X → X.length = 8 →
  selvedgeref18_Encode.l0 (k + q + 1) (P ++ X ++ Q) (i : Int) a0 a1 a2 a3 a4 l5 l6 = selvedgeref18_Encode.l1 k (P ++ (Bt.mkL X (l5.drop i)).1 ++ Q) 0 a0 a1 a2 a3 a4 l5 l6
 | 0, i, X, k, hq, hX, hl => by
  rw [show k + 0 + 1 = k + 1 by omega, selvedgeref18_Encode.l0, if_neg (by omega), List.drop_of_length_le (by omega)]
  rfl
 | q + 1, i, X, k, hq, hX, hl => by
  have hi : i < l5.length := by omega
  have hn := h _ (List.getElem_mem hi)
  obtain ⟨m1, m2⟩ := mid_bit P X Q hX hn.1 (show l5[i] / 8 < (X.length : Int) by omega) (by omega) (by omega)
  rw [hP] at m1 m2
  have hne : ¬ (l5[i] < 0 ∨ l5[i] / 8 ≥ (X.length : Int)) := by omega
  have hlen : (P ++ X ++ Q).length = 32 := by simp [hP, hl, hQ]
  rw [show k + (q + 1) + 1 = (k + q + 1) + 1 by omega, selvedgeref18_Encode.l0, if_pos (by omega), if_pos (by omega), rd_at l5 i hi, show ((6 : Int) + wrap64 (Int.tdiv l5[i] 8)) = ((6 : Nat) : Int) + wrap64 (Int.tdiv l5[i] 8) from rfl, m1, if_pos (by omega), if_pos (by rw [hlen]; omega), if_pos (Int.tmod_nonneg _ hn.1), m2, w64s i (by omega)]
  rw [renc_l0 l5 l6 a0 a1 a2 a3 a4 h5 h P Q hP hQ q (i + 1) _ k (by omega) (Bt.setL_bytes hX _ _) (by rw [Bt.setL_len' _ _ _ hne]; exact hl), List.drop_eq_getElem_cons hi]
  congr 3
  rw [Bt.mkL, if_neg hne]
theorem renc_l1 (l5 l6 : List Int) (a0 a1 a2 a3 a4 : Int) (h6 : l6.length ≤ 1000) (h : ∀ n ∈ l6, 0 ≤ n ∧ n < 16) (P Q : List Int) (hP : P.length = 14) (hQ : Q.length = 16) : ∀ (q i : Nat) (X : List Int) (k : Nat), i + q = l6.length → Bt.Bytes X → X.length = 2 →
  selvedgeref18_Encode.l1 (k + q + 1) (P ++ X ++ Q) (i : Int) a0 a1 a2 a3 a4 l5 l6 = selvedgeref18_Encode.l2 k (P ++ (Bt.mkL X (l6.drop i)).1 ++ Q) 0 0
 | 0, i, X, k, hq, hX, hl => by
  rw [show k + 0 + 1 = k + 1 by omega, selvedgeref18_Encode.l1, if_neg (by omega), List.drop_of_length_le (by omega)]
  rfl
 | q + 1, i, X, k, hq, hX, hl => by
  have hi : i < l6.length := by omega
  have hn := h _ (List.getElem_mem hi)
  obtain ⟨m1, m2⟩ := mid_bit P X Q hX hn.1 (show l6[i] / 8 < (X.length : Int) by omega) (by omega) (by omega)
  rw [hP] at m1 m2
  have hne : ¬ (l6[i] < 0 ∨ l6[i] / 8 ≥ (X.length : Int)) := by omega
  have hlen : (P ++ X ++ Q).length = 32 := by simp [hP, hl, hQ]
  rw [show k + (q + 1) + 1 = (k + q + 1) + 1 by omega, selvedgeref18_Encode.l1, if_pos (by omega), if_pos (by omega), rd_at l6 i hi, show ((14 : Int) + wrap64 (Int.tdiv l6[i] 8)) = ((14 : Nat) : Int) + wrap64 (Int.tdiv l6[i] 8) from rfl, m1, if_pos (by omega), if_pos (by rw [hlen]; omega), if_pos (Int.tmod_nonneg _ hn.1), m2, w64s i (by omega)]
  rw [renc_l1 l5 l6 a0 a1 a2 a3 a4 h6 h P Q hP hQ q (i + 1) _ k (by omega) (Bt.setL_bytes hX _ _) (by rw [Bt.setL_len' _ _ _ hne]; exact hl), List.drop_eq_getElem_cons hi]
  congr 3
  rw [Bt.mkL, if_neg hne]
theorem renc_l2 (H : List Int) (hl : H.length = 32) : ∀ (q i : Nat) (k : Nat), i + q = 31 → selvedgeref18_Encode.l2 (k + q + 1) H (sumN H i) (i : Int) = some (H.set 31 (sumN H 31), 0)
 | 0, i, k, hq => by
  obtain rfl : i = 31 := by omega
  rw [show k + 0 + 1 = k + 1 by omega, selvedgeref18_Encode.l2, if_neg (by omega), if_pos (by omega)]
  rfl
 | q + 1, i, k, hq => by
  rw [show k + (q + 1) + 1 = (k + q + 1) + 1 by omega, selvedgeref18_Encode.l2, if_pos (by omega), if_pos (by omega), if_pos (by omega), w64s i (by omega), show rd H (i : Int) = H.getD i 0 by unfold rd; rw [Int.toNat_natCast], ← sumN_succ H i (by omega)]
  exact renc_l2 H hl q (i + 1) k (by omega)
theorem renc_is (c : S42) (hs : SmallC c) (k : Nat) : selvedgeref18_Encode.f (k + 1101) c.f0 c.f1 c.f2 c.f3 c.f4 c.f5 c.f6 = some (encS c) := by
 have hr := rright_is c hs (k + 100)
 unfold selvedgeref18_Encode.f
 rw [show k + 1101 = k + 100 + 1001 by omega, hr, Option.bind_some]
 unfold encS
 cases hb : rightB c with
 | false => rw [if_neg (by decide), if_neg (by decide)]
 | true =>
  have hp := (right_iff c).1 hb
  have r5 := (rise2_all hp.u).1
  have r6 := (rise2_all hp.n).1
  have u5 := hp.ulen
  have u6 := hp.nlen
  have hb1 := hp.b1
  obtain ⟨l1, l2, _, _, _, _⟩ := enc_fact hs hb
  rw [if_pos rfl, if_pos rfl, if_pos (by decide), Option.bind_some, if_pos (by decide), if_pos (by decide), if_pos (by decide), if_pos (by decide), if_pos (by decide), if_pos (by decide)]
  show selvedgeref18_Encode.l0 (k + 100 + 1001) ([67, c.f0 % 256, c.f1 % 256, c.f2 % 256, c.f3 % 256, c.f4 % 256] ++ List.replicate 8 0 ++ List.replicate 18 0) ((0 : Nat) : Int) c.f0 c.f1 c.f2 c.f3 c.f4 c.f5 c.f6 = _
  rw [show k + 100 + 1001 = (k + 1000 - c.f5.length + 100) + c.f5.length + 1 by omega,
   renc_l0 c.f5 c.f6 _ _ _ _ _ hs.1 (fun n hn => by have := r5 n hn; omega) _ _ rfl rfl c.f5.length 0 _ _ (by omega) (fun y hy => by rw [(List.mem_replicate.1 hy).2]; omega) rfl, List.drop_zero]
  show selvedgeref18_Encode.l1 _ ([67, c.f0 % 256, c.f1 % 256, c.f2 % 256, c.f3 % 256, c.f4 % 256] ++ makeB 8 c.f5 ++ List.replicate 18 0) 0 _ _ _ _ _ _ _ = _
  rw [show List.replicate 18 (0 : Int) = List.replicate 2 0 ++ List.replicate 16 0 from rfl, ← List.append_assoc]
  show selvedgeref18_Encode.l1 _ _ ((0 : Nat) : Int) _ _ _ _ _ _ _ = _
  rw [show k + 1000 - c.f5.length + 100 = (k + 1000 - c.f5.length + 99 - c.f6.length) + c.f6.length + 1 by omega,
   renc_l1 c.f5 c.f6 _ _ _ _ _ hs.2 (fun n hn => by have := r6 n hn; omega) _ _ (by simp [l1]) rfl c.f6.length 0 _ _ (by omega) (fun y hy => by rw [(List.mem_replicate.1 hy).2]; omega) rfl, List.drop_zero]
  show selvedgeref18_Encode.l2 _ (h2 c (makeB 8 c.f5) (makeB 2 c.f6)) (sumN (h2 c (makeB 8 c.f5) (makeB 2 c.f6)) 0) ((0 : Nat) : Int) = _
  rw [show k + 1000 - c.f5.length + 99 - c.f6.length = (k + 1000 - c.f5.length + 67 - c.f6.length) + 31 + 1 by omega, renc_l2 _ (h2_len c l1 l2) 31 0 _ rfl]
  rfl
end Go.Proofs.Ytehjmmedghcndaa.PG
