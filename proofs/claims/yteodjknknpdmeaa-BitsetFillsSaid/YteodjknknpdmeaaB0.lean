import Derived.Test.YteodjknknpdmeaaPGx3
import Derived.WalkArith
/-! Plain laws of the bits of bytes. -/
namespace Go.Proofs.Yteodjknknpdmeaa.Pure
open Go.RowKit
open Go.Proofs.Yteodjknknpdmeaa.PG Go.Proofs.YteodjknknpdmeaaW.PrintWords Go.Proofs.YteodjknknpdmeaaW.PrintLast Go.Proofs.YteodjknknpdmeaaW.PrintMore
theorem u8b {n : Int} (h : (Lit.int .u8 n).wf = true) : 0 ≤ n ∧ n < 256 := by
  have h' := (Bool.and_eq_true _ _).mp h
  have h1 : (0 : Int) ≤ n := of_decide_eq_true h'.1
  have h2 : n ≤ (255 : Int) := of_decide_eq_true h'.2
  omega
theorem i64b {n : Int} (h : (Lit.int .i64 n).wf = true) : -9223372036854775808 ≤ n ∧ n ≤ 9223372036854775807 := by
  have h' := (Bool.and_eq_true _ _).mp h
  exact ⟨of_decide_eq_true h'.1, of_decide_eq_true h'.2⟩
def Bytes (l : List Int) : Prop := ∀ y ∈ l, 0 ≤ y ∧ y < 256
theorem bytes_of {l : List Int} (h : ∀ y ∈ l, (Lit.int .u8 y).wf = true) : Bytes l := fun y hy => u8b (h y hy)
theorem Bytes.take {l : List Int} (h : Bytes l) (n : Nat) : Bytes (l.take n) := fun y hy => h y (List.mem_of_mem_take hy)
theorem Bytes.at_ {l : List Int} (h : Bytes l) (i : Nat) : 0 ≤ l.getD i 0 ∧ l.getD i 0 < 256 := by
  rw [List.getD_eq_getElem?_getD]
  cases hi : l[i]? with
  | none => simp
  | some x => simpa using h x (List.mem_of_getElem? hi)
/-! ### a byte -/
theorem get_byte : ∀ c : Nat, c < 256 → ∀ m : Nat, m < 8 → (Go.bits .and .u8 (c : Int) (shl .u8 1 (m : Int)) != 0) = c.testBit m := by decide +kernel
theorem get_byte2 : ∀ c : Nat, c < 256 → ∀ m : Nat, m < 8 → (Go.bits .and .u8 (shr .u8 (c : Int) (m : Int)) 1 == 1) = c.testBit m := by decide +kernel
/-- A byte with a bit set, or not. -/
def setB (c m : Nat) (on : Bool) : Nat := if on then c ||| 2 ^ m else if c.testBit m then c - 2 ^ m else c
theorem set_byte_on : ∀ c : Nat, c < 256 → ∀ m : Nat, m < 8 → Go.bits .or .u8 (c : Int) (shl .u8 1 (m : Int)) = (setB c m true : Int) := by decide +kernel
theorem set_byte_off : ∀ c : Nat, c < 256 → ∀ m : Nat, m < 8 → Go.bits .andNot .u8 (Go.bits .or .u8 (c : Int) (shl .u8 1 (m : Int))) (shl .u8 1 (m : Int)) = (setB c m false : Int) := by decide +kernel
theorem set_byte_xor : ∀ c : Nat, c < 256 → ∀ m : Nat, m < 8 → ∀ on : Bool, (c.testBit m != on) = true → Go.bits .xor .u8 (c : Int) (shl .u8 1 (m : Int)) = (setB c m on : Int) := by decide +kernel
theorem set_byte_same : ∀ c : Nat, c < 256 → ∀ m : Nat, m < 8 → ∀ on : Bool, (c.testBit m != on) = false → setB c m on = c := by decide +kernel
theorem setB_lt : ∀ c : Nat, c < 256 → ∀ m : Nat, m < 8 → ∀ on : Bool, setB c m on < 256 := by decide +kernel
theorem setB_bit : ∀ c : Nat, c < 256 → ∀ m : Nat, m < 8 → ∀ on : Bool, ∀ j : Nat, j < 8 → (setB c m on).testBit j = if j = m then on else c.testBit j := by decide +kernel
/-! ### bytes -/
/-- A bit of bytes. -/
def bit (l : List Int) (n : Nat) : Bool := (l.getD (n / 8) 0).toNat.testBit (n % 8)
theorem bit_out (l : List Int) (n : Nat) (h : l.length ≤ n / 8) : bit l n = false := by
  unfold bit
  rw [List.getD_eq_getElem?_getD, List.getElem?_eq_none h]
  simp
def bitI (l : List Int) (i : Int) : Bool := decide (0 ≤ i) && bit l i.toNat
theorem get_is (l : List Int) (i : Int) (hl : Bytes l) (hi : i ≤ 9223372036854775807) : bitset_Get.f l i = some (bitI l i) := by
  unfold bitset_Get.f bitI
  by_cases h0 : 0 ≤ i
  · rw [if_pos h0]
    obtain ⟨n, rfl⟩ := Int.eq_ofNat_of_zero_le h0
    by_cases h : (n : Int) / 8 < (l.length : Int)
    · rw [if_pos h, if_pos (by omega), and7 _ h0 (by omega), if_pos (by omega)]
      have hc := hl.at_ (n / 8)
      have hb := get_byte (l.getD (n / 8) 0).toNat (by omega) (n % 8) (by omega)
      have e1 : rd l ((n : Int) / 8) = ((l.getD (n / 8) 0).toNat : Int) := by
        unfold rd
        rw [show (((n : Int) / 8).toNat) = n / 8 by omega]
        omega
      rw [e1, show ((n : Int) % 8) = ((n % 8 : Nat) : Int) by omega, hb]
      simp [bit]
    · rw [if_neg h, show (n : Int).toNat = n by omega, bit_out l n (by omega)]
      simp
  · rw [if_neg h0]
    simp [h0]
theorem div8 (i : Int) (h0 : 0 ≤ i) (hi : i ≤ 9223372036854775807) : wrap64 (Int.tdiv i 8) = i / 8 := by
  rw [Int.tdiv_eq_ediv_of_nonneg h0]
  unfold wrap64
  omega
theorem refget_is (l : List Int) (i : Int) (hl : Bytes l) (hi : i ≤ 9223372036854775807) : selvedgeref02_Get.f l i = some (bitI l i) := by
  unfold selvedgeref02_Get.f bitI
  by_cases h0 : 0 ≤ i
  · rw [if_pos h0, div8 i h0 hi, Int.tmod_eq_emod_of_nonneg h0]
    obtain ⟨n, rfl⟩ := Int.eq_ofNat_of_zero_le h0
    by_cases h : (n : Int) / 8 < (l.length : Int)
    · rw [if_pos h, if_pos (by omega), if_pos (by omega)]
      have hc := hl.at_ (n / 8)
      have hb := get_byte2 (l.getD (n / 8) 0).toNat (by omega) (n % 8) (by omega)
      have e1 : rd l ((n : Int) / 8) = ((l.getD (n / 8) 0).toNat : Int) := by
        unfold rd
        rw [show (((n : Int) / 8).toNat) = n / 8 by omega]
        omega
      rw [e1, show ((n : Int) % 8) = ((n % 8 : Nat) : Int) by omega, hb]
      simp [bit]
    · rw [if_neg h, show (n : Int).toNat = n by omega, bit_out l n (by omega)]
      simp
  · rw [if_neg h0]
    simp [h0]
/-- Bytes with a bit set, or not; the error. -/
def setL (l : List Int) (i : Int) (on : Bool) : List Int × Int :=
  if i < 0 ∨ i / 8 ≥ (l.length : Int) then ([], 2) else (l.set (i / 8).toNat (setB (l.getD (i / 8).toNat 0).toNat (i % 8).toNat on : Int), 0)
theorem nat_at (l : List Int) (hl : Bytes l) (i : Int) (h0 : 0 ≤ i) : ∃ c : Nat, c < 256 ∧ rd l (i / 8) = (c : Int) ∧ (l.getD (i / 8).toNat 0).toNat = c := by
  have hc := hl.at_ (i / 8).toNat
  exact ⟨(l.getD (i / 8).toNat 0).toNat, by omega, by unfold rd; omega, rfl⟩
theorem rd_set_same (l : List Int) (i : Int) (x : Int) (h0 : 0 ≤ i) (h : i < (l.length : Int)) : rd (l.set i.toNat x) i = x := by
  unfold rd
  rw [List.getD_eq_getElem?_getD, List.getElem?_set_self (by omega)]
  rfl
theorem set_is (l : List Int) (i : Int) (on : Bool) (hl : Bytes l) (hi : i ≤ 9223372036854775807) (hn : l.length < 140737488355328) : ∀ k, 1 ≤ k → bitset_Set.f k l i on = some (setL l i on) := by
  intro k hk
  obtain ⟨k, rfl⟩ : ∃ m, k = m + 1 := ⟨k - 1, by omega⟩
  unfold bitset_Set.f setL
  by_cases h0 : i < 0
  · rw [if_pos h0, if_pos (.inl h0)]; simp [bitset_Set.j0]
  · rw [if_neg h0]
    by_cases h1 : i / 8 ≥ (l.length : Int)
    · rw [if_pos (.inr h1)]; simp [bitset_Set.j0, h1]
    · rw [if_neg (by omega)]
      simp only [bitset_Set.j0, h1, decide_false]
      rw [if_neg (by simp)]
      unfold slices_Clone_byte_byte.f
      rw [if_pos hn]
      simp only [Option.bind_some]
      obtain ⟨c, hc, e1, e2⟩ := nat_at l hl i (by omega)
      obtain ⟨m, hm, hm8⟩ : ∃ m : Nat, i % 8 = (m : Int) ∧ m < 8 := ⟨(i % 8).toNat, by omega, by omega⟩
      rw [if_pos (by omega), if_pos (by omega), and7 i (by omega) (by omega), if_pos (by omega), e1, e2, hm, Int.toNat_natCast, set_byte_on c hc m hm8]
      cases on with
      | true => simp
      | false =>
        rw [if_neg (by simp), rd_set_same _ _ _ (by omega) (by omega), List.set_set, ← set_byte_on c hc m hm8, set_byte_off c hc m hm8]
theorem refset_is (l : List Int) (i : Int) (on : Bool) (hl : Bytes l) (hi : i ≤ 9223372036854775807) (hn : l.length < 140737488355328) : ∀ k, 1 ≤ k → selvedgeref02_Set.f k l i on = some (setL l i on) := by
  intro k hk
  obtain ⟨k, rfl⟩ : ∃ m, k = m + 1 := ⟨k - 1, by omega⟩
  unfold selvedgeref02_Set.f setL
  by_cases h0 : i < 0
  · rw [if_pos h0, if_pos (.inl h0)]; simp [selvedgeref02_Set.j0]
  · rw [if_neg h0, div8 i (by omega) hi]
    by_cases h1 : i / 8 ≥ (l.length : Int)
    · rw [if_pos (.inr h1)]; simp [selvedgeref02_Set.j0, h1]
    · rw [if_neg (by omega)]
      simp only [selvedgeref02_Set.j0, h1, decide_false]
      rw [if_neg (by simp)]
      simp only [Option.bind_some, List.nil_append, List.length_nil, Nat.zero_add]
      rw [if_pos hn, refget_is l i hl hi, div8 i (by omega) hi, Int.tmod_eq_emod_of_nonneg (by omega)]
      simp only [Option.bind_some]
      obtain ⟨c, hc, e1, e2⟩ := nat_at l hl i (by omega)
      have hb : bitI l i = c.testBit (i % 8).toNat := by
        unfold bitI bit
        rw [show i.toNat / 8 = (i / 8).toNat by omega, e2, show i.toNat % 8 = (i % 8).toNat by omega]
        simp; omega
      obtain ⟨m, hm, hm8⟩ : ∃ m : Nat, i % 8 = (m : Int) ∧ m < 8 := ⟨(i % 8).toNat, by omega, by omega⟩
      rw [hb, e1, e2, hm, Int.toNat_natCast]
      by_cases hx : (c.testBit m != on) = true
      · rw [if_pos hx, if_pos (by omega), if_pos (by omega), if_pos (by omega), set_byte_xor c hc m hm8 on hx]
      · rw [if_neg hx, set_byte_same c hc m hm8 on (by simpa using hx)]
        have : l.set (i / 8).toNat (c : Int) = l := by
          have hc2 := hl.at_ (i / 8).toNat
          have : (c : Int) = l.getD (i / 8).toNat 0 := by omega
          rw [this, List.getD_eq_getElem?_getD, List.getElem?_eq_getElem (by omega)]
          simp
        rw [this]
theorem setL_ok (l : List Int) (i : Int) (on : Bool) (h0 : 0 ≤ i) (h1 : i / 8 < (l.length : Int)) : setL l i on = (l.set (i / 8).toNat (setB (l.getD (i / 8).toNat 0).toNat (i % 8).toNat on : Int), 0) := by
  unfold setL
  rw [if_neg (by omega)]
theorem setL_err (l : List Int) (i : Int) (on : Bool) (h : i < 0 ∨ i / 8 ≥ (l.length : Int)) : setL l i on = ([], 2) := by
  unfold setL
  rw [if_pos h]
theorem setL_bytes {l : List Int} (hl : Bytes l) (i : Int) (on : Bool) : Bytes (setL l i on).1 := by
  by_cases h : i < 0 ∨ i / 8 ≥ (l.length : Int)
  · rw [setL_err l i on h]; intro y hy; simp at hy
  · rw [setL_ok l i on (by omega) (by omega)]
    intro y hy
    rcases List.mem_or_eq_of_mem_set hy with hy | rfl
    · exact hl y hy
    · have hc := hl.at_ (i / 8).toNat
      have := setB_lt (l.getD (i / 8).toNat 0).toNat (by omega) (i % 8).toNat (by omega) on
      omega
theorem bitI_set {l : List Int} (hl : Bytes l) (i : Int) (on : Bool) (h0 : 0 ≤ i) (h1 : i / 8 < (l.length : Int)) (j : Int) : bitI (setL l i on).1 j = if j = i then on else bitI l j := by
  rw [setL_ok l i on h0 h1]
  have hc := hl.at_ (i / 8).toNat
  unfold bitI
  by_cases hj : 0 ≤ j
  · simp only [hj, decide_true, Bool.true_and]
    unfold bit
    by_cases hb : j.toNat / 8 = (i / 8).toNat
    · rw [hb, List.getD_eq_getElem?_getD, List.getElem?_set_self (by omega)]
      have := setB_bit (l.getD (i / 8).toNat 0).toNat (by omega) (i % 8).toNat (by omega) on (j.toNat % 8) (by omega)
      simp only [Option.getD_some, Int.toNat_natCast, this]
      by_cases he : j = i
      · subst he; rw [if_pos (by omega), if_pos rfl]
      · rw [if_neg (by omega), if_neg he]
    · rw [List.getD_eq_getElem?_getD, List.getElem?_set_ne (by omega), ← List.getD_eq_getElem?_getD, if_neg (by omega)]
  · simp only [hj, decide_false, Bool.false_and]
    rw [if_neg (by omega)]
theorem live_is : ∀ k, 20 ≤ k → selvedgelaw02_live.f k = some true := by
  intro k hk
  exact at_rounds (selvedgelaw02_live.mono) hk (by decide +kernel)
theorem few_is (l : List Int) : selvedgelaw02_few.f l = some (l.take 80) := by
  unfold selvedgelaw02_few.f
  by_cases h : (l.length : Int) > 80
  · rw [if_pos h, if_pos (by omega)]
  · rw [if_neg h, List.take_of_length_le (by omega)]
end Go.Proofs.Yteodjknknpdmeaa.Pure
