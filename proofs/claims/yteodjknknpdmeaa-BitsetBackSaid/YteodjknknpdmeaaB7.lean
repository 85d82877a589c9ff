import Derived.Test.YteodjknknpdmeaaB3
import Derived.Test.YteodjknknpdmeaaPGx8
/-! Plain laws of the bits of bytes, 8: the laws BitsetMakes, BitsetBack. -/
namespace Go.Proofs.Yteodjknknpdmeaa.Pure
open Go.RowKit
open Go.Proofs.Yteodjknknpdmeaa.PG Go.Proofs.YteodjknknpdmeaaW.PrintWords Go.Proofs.YteodjknknpdmeaaW.PrintLast Go.Proofs.YteodjknknpdmeaaW.PrintMore
/-- What Make answers: the bits of some numbers set, one after the other. -/
def mkL : List Int → List Int → List Int × Int
  | x, [] => (x, 0)
  | x, i :: t => if i < 0 ∨ i / 8 ≥ (x.length : Int) then ([], 2) else mkL (setL x i true).1 t
theorem setL_len' (l : List Int) (i : Int) (on : Bool) (h : ¬ (i < 0 ∨ i / 8 ≥ (l.length : Int))) : (setL l i on).1.length = l.length := by
  rw [setL_ok l i on (by omega) (by omega)]; simp
theorem make_l0 (n : Nat) (hn : n ≤ 64) (ns : List Int) (hns : ns.length ≤ 1000) (hb : ∀ y ∈ ns, -9223372036854775808 ≤ y ∧ y ≤ 9223372036854775807) (d : Nat) : ∀ (x : List Int) (i : Nat), Bytes x → x.length = n → ns.length - i = d → i ≤ ns.length →
    Ev (fun k => bitset_Make.l0 k (n : Int) x ns (ns.length : Int) (i : Int)) (mkL x (ns.drop i)) := by
  induction d with
  | zero =>
    intro x i hl hx hd hi
    rw [List.drop_of_length_le (by omega)]
    refine Ev.step (f := fun _ => some (x, 0)) (fun k => ?_) (Ev.now _)
    simp only [bitset_Make.l0]
    rw [if_neg (by omega)]
  | succ d ih =>
    intro x i hl hx hd hi
    have hit : i < ns.length := by omega
    have e1 : rd ns (i : Int) = ns[i] := by simp [rd, List.getD_eq_getElem?_getD, hit]
    have hy := hb ns[i] (List.getElem_mem hit)
    rw [List.drop_eq_getElem_cons hit]
    unfold mkL
    by_cases he : ns[i] < 0 ∨ ns[i] / 8 ≥ (x.length : Int)
    · rw [if_pos he]
      refine Ev.step (f := fun _ => some ([], 2)) (fun k => ?_) (Ev.now _)
      simp only [bitset_Make.l0, e1]
      rw [if_pos (by omega), if_pos (by omega), if_pos (by omega)]
      by_cases h0 : ns[i] < 0
      · rw [if_pos h0]
      · rw [if_neg h0, wrapI (by omega), if_pos (by omega)]
    · rw [if_neg he]
      refine Ev.step (fun k => ?_) (ih (setL x ns[i] true).1 (i + 1) (setL_bytes hl _ _) (by rw [setL_len' _ _ _ he, hx]) (by omega) (by omega))
      simp only [bitset_Make.l0, e1]
      obtain ⟨c, hc, e2, e3⟩ := nat_at x hl ns[i] (by omega)
      obtain ⟨m, hm, hm8⟩ : ∃ m : Nat, ns[i] % 8 = (m : Int) ∧ m < 8 := ⟨(ns[i] % 8).toNat, by omega, by omega⟩
      rw [if_pos (by omega), if_pos (by omega), if_pos (by omega), if_neg (by omega), wrapI (show _ ≤ 8 * (n : Int) ∧ _ by omega), if_neg (by omega), div8 _ (by omega) hy.2, Int.tmod_eq_emod_of_nonneg (by omega), if_pos (by omega), if_pos (by omega), if_pos (by omega), wrapI (by omega), e2, hm, set_byte_on c hc m hm8,
        setL_ok x ns[i] true (by omega) (by omega), e3, hm, Int.toNat_natCast]
      rfl
theorem make_is (a : Int) (ns : List Int) (hns : ns.length ≤ 1000) (hb : ∀ y ∈ ns, -9223372036854775808 ≤ y ∧ y ≤ 9223372036854775807) : Ev (fun k => bitset_Make.f k a ns) (if a < 0 ∨ a > 64 then ([], 2) else mkL (List.replicate a.toNat 0) ns) := by
  unfold bitset_Make.f
  by_cases h : a < 0 ∨ a > 64
  · rw [if_pos h]
    refine Ev.congr (f := fun k => bitset_Make.j0 k a ns true) (fun k => ?_) (Ev.step (f := fun _ => some ([], 2)) (fun k => by simp [bitset_Make.j0]) (Ev.now _))
    by_cases h0 : a < 0
    · rw [if_pos h0]
    · rw [if_neg h0, show decide (a > 64) = true by simp; omega]
  · rw [if_neg h]
    obtain ⟨n, rfl⟩ := Int.eq_ofNat_of_zero_le (show 0 ≤ a by omega)
    have := make_l0 n (by omega) ns hns hb _ (List.replicate n 0) 0 (fun y hy => by rw [(List.mem_replicate.1 hy).2]; omega) (by simp) rfl (by omega)
    rw [List.drop_zero] at this
    refine Ev.congr (f := fun k => bitset_Make.j0 k (n : Int) ns false) (fun k => ?_) (Ev.step (fun k => ?_) this)
    · rw [if_neg (by omega), show decide ((n : Int) > 64) = false by simp; omega]
    · simp only [bitset_Make.j0, Int.toNat_natCast]
      rw [if_neg (by simp), if_pos (by omega), if_pos (by omega)]
      rfl
theorem refmake_l0 (ns : List Int) (hns : ns.length ≤ 1000) (hb : ∀ y ∈ ns, -9223372036854775808 ≤ y ∧ y ≤ 9223372036854775807) (d : Nat) : ∀ (x : List Int) (i : Nat), Bytes x → x.length ≤ 64 → ns.length - i = d → i ≤ ns.length →
    Ev (fun k => selvedgeref02_Make.l0 k ns x (i : Int)) (mkL x (ns.drop i)) := by
  induction d with
  | zero =>
    intro x i hl hx hd hi
    rw [List.drop_of_length_le (by omega)]
    refine Ev.step (f := fun _ => some (x, 0)) (fun k => ?_) (Ev.now _)
    simp only [selvedgeref02_Make.l0]
    rw [if_neg (by omega)]
  | succ d ih =>
    intro x i hl hx hd hi
    have hit : i < ns.length := by omega
    have e1 : rd ns (i : Int) = ns[i] := by simp [rd, List.getD_eq_getElem?_getD, hit]
    have hy := hb ns[i] (List.getElem_mem hit)
    rw [List.drop_eq_getElem_cons hit]
    unfold mkL
    refine Ev.step (f := fun k => (selvedgeref02_Set.f k x ns[i] true).bind fun bt278 => (if bt278.2 = 0 then (selvedgeref02_Make.l0 k ns bt278.1 ((i + 1 : Nat) : Int)) else (some (([] : List Int), bt278.2)))) (fun k => ?_) (Ev.bind (a := setL x ns[i] true) ⟨1, fun k hk => refset_is x ns[i] true hl hy.2 (by omega) k hk⟩ ?_)
    · simp only [selvedgeref02_Make.l0, e1]
      rw [if_pos (by omega), if_pos (by omega), wrapI (by omega)]
      rfl
    · by_cases he : ns[i] < 0 ∨ ns[i] / 8 ≥ (x.length : Int)
      · rw [if_pos he, setL_err _ _ _ he]
        exact Ev.now _
      · rw [if_neg he]
        refine Ev.congr (fun k => ?_) (ih (setL x ns[i] true).1 (i + 1) (setL_bytes hl _ _) (by rw [setL_len' _ _ _ he]; exact hx) (by omega) (by omega))
        show (if (setL x ns[i] true).2 = 0 then _ else _) = _
        rw [if_pos (by rw [setL_ok x _ _ (by omega) (by omega)])]
theorem refmake_is (a : Int) (ns : List Int) (hns : ns.length ≤ 1000) (hb : ∀ y ∈ ns, -9223372036854775808 ≤ y ∧ y ≤ 9223372036854775807) : Ev (fun k => selvedgeref02_Make.f k a ns) (if a < 0 ∨ a > 64 then ([], 2) else mkL (List.replicate a.toNat 0) ns) := by
  unfold selvedgeref02_Make.f
  by_cases h : a < 0 ∨ a > 64
  · rw [if_pos h]
    refine Ev.congr (f := fun k => selvedgeref02_Make.j0 k a ns true) (fun k => ?_) (Ev.step (f := fun _ => some ([], 2)) (fun k => by simp [selvedgeref02_Make.j0]) (Ev.now _))
    by_cases h0 : a < 0
    · rw [if_pos h0]
    · rw [if_neg h0, show decide (a > 64) = true by simp; omega]
  · rw [if_neg h]
    obtain ⟨n, rfl⟩ := Int.eq_ofNat_of_zero_le (show 0 ≤ a by omega)
    have := refmake_l0 ns hns hb _ (List.replicate n 0) 0 (fun y hy => by rw [(List.mem_replicate.1 hy).2]; omega) (by simp; omega) rfl (by omega)
    rw [List.drop_zero] at this
    refine Ev.congr (f := fun k => selvedgeref02_Make.j0 k (n : Int) ns false) (fun k => ?_) (Ev.step (fun k => ?_) this)
    · rw [if_neg (by omega), show decide ((n : Int) > 64) = false by simp; omega]
    · simp only [selvedgeref02_Make.j0, Int.toNat_natCast]
      rw [if_neg (by simp), if_pos (by omega), if_pos (by omega)]
      rfl
theorem hasBit_is (l : List Int) (i : Int) (hl : Bytes l) (hi : i ≤ 9223372036854775807) : hasBit l i = bitI l i := by
  have h : bitset_Get.f l i = PA.bitset_Get.f l i := rfl
  unfold hasBit
  rw [← h, get_is l i hl hi]
  rfl
theorem refwo_l0 (b t : List Int) (hb : Bytes b) (ht : t.length ≤ 1000) (hm : ∀ y ∈ t, y ≤ 9223372036854775807) (d : Nat) : ∀ (acc : List Int) (i : Nat), t.length - i = d → i ≤ t.length → acc.length ≤ i →
    Ev (fun k => selvedgeref02_Without.l0 k b acc t (i : Int)) (acc ++ wo b (t.drop i)) := by
  induction d with
  | zero =>
    intro acc i hd hi ha
    rw [List.drop_of_length_le (by omega)]
    refine Ev.step (f := fun _ => some acc) (fun k => ?_) (by simpa [wo] using Ev.now acc)
    simp only [selvedgeref02_Without.l0]
    rw [if_neg (by omega)]
  | succ d ih =>
    intro acc i hd hi ha
    have hit : i < t.length := by omega
    have e1 : rd t (i : Int) = t[i] := by simp [rd, List.getD_eq_getElem?_getD, hit]
    have hy := hm t[i] (List.getElem_mem hit)
    rw [List.drop_eq_getElem_cons hit, show wo b (t[i] :: t.drop (i + 1)) = (if hasBit b t[i] then [] else [t[i]]) ++ wo b (t.drop (i + 1)) by
      unfold wo; rw [List.filter_cons]; cases hasBit b t[i] <;> simp]
    cases hbit : bitI b t[i] with
    | true =>
      rw [hasBit_is b _ hb hy, hbit, if_pos rfl, List.nil_append]
      refine Ev.step (fun k => ?_) (ih acc (i + 1) (by omega) (by omega) (by omega))
      simp only [selvedgeref02_Without.l0, e1]
      rw [if_pos (by omega), if_pos (by omega), refget_is b _ hb hy, hbit, wrapI (by omega)]
      rfl
    | false =>
      rw [hasBit_is b _ hb hy, hbit, if_neg (by simp), ← List.append_assoc]
      refine Ev.step (fun k => ?_) (ih (acc ++ [t[i]]) (i + 1) (by omega) (by omega) (by simp; omega))
      simp only [selvedgeref02_Without.l0, e1]
      rw [if_pos (by omega), if_pos (by omega), refget_is b _ hb hy, hbit, wrapI (by omega), if_pos (by omega)]
      simp
theorem refwo_is (l b : List Int) (hl : Bytes l) (hn : l.length ≤ 80) (hb : Bytes b) : Ev (fun k => selvedgeref02_Without.f k l b) (wo b (bitsOf l)) := by
  unfold selvedgeref02_Without.f
  refine Ev.bind (refList_is l hl hn) ?_
  have hlen := bitsOf_len l
  have := refwo_l0 b (bitsOf l) hb (by omega) (fun y hy => by have := ((bitsOf_rise l).mem y hy).2; omega) _ [] 0 rfl (by omega) (by simp)
  simpa using this
/-! ### the way back -/
theorem ext_bits (a b : List Int) (ha : Bytes a) (hb : Bytes b) (hn : a.length = b.length) (h : ∀ j : Nat, bit a j = bit b j) : a = b := by
  apply List.ext_getElem hn
  intro i h1 h2
  have ea := ha a[i] (List.getElem_mem h1)
  have eb := hb b[i] (List.getElem_mem h2)
  have : (a[i]).toNat = (b[i]).toNat := by
    apply Nat.eq_of_testBit_eq
    intro m
    by_cases hm : m < 8
    · have := h (8 * i + m)
      unfold bit at this
      rw [show (8 * i + m) / 8 = i by omega, show (8 * i + m) % 8 = m by omega, List.getD_eq_getElem?_getD, List.getD_eq_getElem?_getD, List.getElem?_eq_getElem h1, List.getElem?_eq_getElem h2] at this
      simpa using this
    · have p8 : 2 ^ 8 ≤ 2 ^ m := Nat.pow_le_pow_right (by omega) (by omega)
      rw [Nat.testBit_lt_two_pow (by omega), Nat.testBit_lt_two_pow (by omega)]
  omega
theorem mkL_ok (t : List Int) : ∀ (x : List Int), Bytes x → (∀ i ∈ t, 0 ≤ i ∧ i / 8 < (x.length : Int)) → ∃ y, mkL x t = (y, 0) ∧ Bytes y ∧ y.length = x.length ∧ ∀ j, bitI y j = (bitI x j || decide (j ∈ t)) := by
  induction t with
  | nil => intro x hl h; exact ⟨x, rfl, hl, rfl, fun j => by simp⟩
  | cons i t ih =>
    intro x hl h
    have hi := h i (by simp)
    have hne : ¬ (i < 0 ∨ i / 8 ≥ (x.length : Int)) := by omega
    obtain ⟨y, h1, h2, h3, h4⟩ := ih (setL x i true).1 (setL_bytes hl _ _) (fun j hj => by rw [setL_len' _ _ _ hne]; exact h j (by simp [hj]))
    refine ⟨y, by unfold mkL; rw [if_neg hne]; exact h1, h2, by rw [h3, setL_len' _ _ _ hne], fun j => ?_⟩
    rw [h4, bitI_set hl i true hi.1 hi.2]
    by_cases hj : j = i
    · simp [hj]
    · simp [hj]
theorem back_is (l : List Int) (hl : Bytes l) (hn : l.length ≤ 64) : mkL (List.replicate l.length 0) (bitsOf l) = (l, 0) := by
  obtain ⟨y, h1, h2, h3, h4⟩ := mkL_ok (bitsOf l) (List.replicate l.length 0) (fun y hy => by rw [(List.mem_replicate.1 hy).2]; omega) (fun i hi => by have := (bitsOf_rise l).mem i hi; rw [List.length_replicate]; omega)
  rw [h1]
  congr 1
  refine ext_bits y l h2 hl (by rw [h3, List.length_replicate]) fun j => ?_
  have hj := h4 (j : Int)
  have h0 : bitI (List.replicate l.length 0) (j : Int) = false := by
    unfold bitI bit
    rw [Int.toNat_natCast, List.getD_eq_getElem?_getD, List.getElem?_replicate]
    split <;> simp
  rw [h0, Bool.false_or] at hj
  have e : ∀ z : List Int, bitI z (j : Int) = bit z j := fun z => by simp [bitI]
  rw [e] at hj
  rw [hj]
  have hm := mem_bitsOf l (j : Int)
  rw [e] at hm
  cases hb : bit l j with
  | true => simp [hm.2 hb]
  | false =>
    simp only [decide_eq_false_iff_not]
    intro hc
    rw [hm.1 hc] at hb
    exact absurd hb (by simp)
end Go.Proofs.Yteodjknknpdmeaa.Pure
