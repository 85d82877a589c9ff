import Derived.Test.YtehjmmedghcndaaCH
import Derived.Test.YtehjmmedghcndaaG6
import Derived.WalkArith
/-! Plain laws of sets of bits. -/
namespace Go.Proofs.Ytehjmmedghcndaa.PG.Bt
open Go.RowKit
open Go.Proofs.Ytehjmmedghcndaa.PG Go.Proofs.YtehjmmedghcndaaW.PrintWords Go.Proofs.YtehjmmedghcndaaW.PrintLast Go.Proofs.YtehjmmedghcndaaW.PrintMore
theorem snocRec {α : Type} {p : List α → Prop} (h0 : p []) (h1 : ∀ l x, p l → p (l ++ [x])) (l : List α) : p l := by
 have h : ∀ n (l : List α), l.length = n → p l := by
  intro n
  induction n with
  | zero => intro l hl; rw [List.eq_nil_of_length_eq_zero hl]; exact h0
  | succ n ih =>
   intro l hl
   rcases List.eq_nil_or_concat l with rfl | ⟨ts, r, rfl⟩
   ·exact h0
   ·rw [List.concat_eq_append] at hl ⊢; exact h1 ts r (ih ts (by simp at hl; omega))
 exact h _ l rfl
def Bytes (l : List Int) : Prop := ∀ y ∈ l, 0 ≤ y ∧ y < 256
theorem Bytes.take {l : List Int} (h : Bytes l) (n : Nat) : Bytes (l.take n) := fun y hy => h y (List.mem_of_mem_take hy)
theorem Bytes.at_ {l : List Int} (h : Bytes l) (i : Nat) : 0 ≤ l.getD i 0 ∧ l.getD i 0 < 256 := by
 rw [List.getD_eq_getElem?_getD]
 cases hi : l[i]? with
 | none => simp
 | some x => simpa using h x (List.mem_of_getElem? hi)
theorem get_byte2 : ∀ c : Nat, c < 256 → ∀ m : Nat, m < 8 → (Go.bits .and .u8 (shr .u8 (c : Int) (m : Int)) 1 == 1) = c.testBit m := by decide +kernel
/-- A byte with a bit set, or not. -/
def setB (c m : Nat) (on : Bool) : Nat := if on then c ||| 2 ^ m else if c.testBit m then c - 2 ^ m else c
theorem set_byte_on : ∀ c : Nat, c < 256 → ∀ m : Nat, m < 8 → Go.bits .or .u8 (c : Int) (shl .u8 1 (m : Int)) = (setB c m true : Int) := by decide +kernel
theorem setB_lt : ∀ c : Nat, c < 256 → ∀ m : Nat, m < 8 → ∀ on : Bool, setB c m on < 256 := by decide +kernel
theorem setB_bit : ∀ c : Nat, c < 256 → ∀ m : Nat, m < 8 → ∀ on : Bool, ∀ j : Nat, j < 8 → (setB c m on).testBit j = if j = m then on else c.testBit j := by decide +kernel
/-- A bit of bytes. -/
def bit (l : List Int) (n : Nat) : Bool := (l.getD (n / 8) 0).toNat.testBit (n % 8)
theorem bit_out (l : List Int) (n : Nat) (h : l.length ≤ n / 8) : bit l n = false := by
 unfold bit
 rw [List.getD_eq_getElem?_getD, List.getElem?_eq_none h]
 simp
def bitI (l : List Int) (i : Int) : Bool := decide (0 ≤ i) && bit l i.toNat
theorem div8 (i : Int) (h0 : 0 ≤ i) (hi : i ≤ 9223372036854775807) : wrap64 (Int.tdiv i 8) = i / 8 := by
 rw [Int.tdiv_eq_ediv_of_nonneg h0]
 unfold wrap64
 omega
/-- Bytes with a bit set, or not; the error. -/
def setL (l : List Int) (i : Int) (on : Bool) : List Int × Int :=
 if i < 0 ∨ i / 8 ≥ (l.length : Int) then ([], 2) else (l.set (i / 8).toNat (setB (l.getD (i / 8).toNat 0).toNat (i % 8).toNat on : Int), 0)
theorem nat_at (l : List Int) (hl : Bytes l) (i : Int) (h0 : 0 ≤ i) : ∃ c : Nat, c < 256 ∧ rd l (i / 8) = (c : Int) ∧ (l.getD (i / 8).toNat 0).toNat = c := by
 have hc := hl.at_ (i / 8).toNat
 exact ⟨(l.getD (i / 8).toNat 0).toNat, by omega, by unfold rd; omega, rfl⟩
theorem setL_ok (l : List Int) (i : Int) (on : Bool) (h0 : 0 ≤ i) (h1 : i / 8 < (l.length : Int)) : setL l i on = (l.set (i / 8).toNat (setB (l.getD (i / 8).toNat 0).toNat (i % 8).toNat on : Int), 0) := by
 unfold setL
 rw [if_neg (by omega)]
theorem setL_err (l : List Int) (i : Int) (on : Bool) (h : i < 0 ∨ i / 8 ≥ (l.length : Int)) : setL l i on = ([], 2) := by
 unfold setL
 rw [if_pos h]
theorem setL_bytes {l : List Int} (hl : Bytes l) (i : Int) (on : Bool) : Bytes (setL l i on).1 := by
 by_cases h : i < 0 ∨ i / 8 ≥ (l.length : Int)
 ·rw [setL_err l i on h]; intro y hy; simp at hy
 ·rw [setL_ok l i on (by omega) (by omega)]
  intro y hy
  rcases List.mem_or_eq_of_mem_set hy with hy | rfl
  ·exact hl y hy
  ·have hc := hl.at_ (i / 8).toNat
   have := setB_lt (l.getD (i / 8).toNat 0).toNat (by omega) (i % 8).toNat (by omega) on
   omega
theorem bitI_set {l : List Int} (hl : Bytes l) (i : Int) (on : Bool) (h0 : 0 ≤ i) (h1 : i / 8 < (l.length : Int)) (j : Int) : bitI (setL l i on).1 j = if j = i then on else bitI l j := by
 rw [setL_ok l i on h0 h1]
 have hc := hl.at_ (i / 8).toNat
 unfold bitI
 by_cases hj : 0 ≤ j
 ·simp only [hj, decide_true, Bool.true_and]
  unfold bit
  by_cases hb : j.toNat / 8 = (i / 8).toNat
  ·rw [hb, List.getD_eq_getElem?_getD, List.getElem?_set_self (by omega)]
   have := setB_bit (l.getD (i / 8).toNat 0).toNat (by omega) (i % 8).toNat (by omega) on (j.toNat % 8) (by omega)
   simp only [Option.getD_some, Int.toNat_natCast, this]
   by_cases he : j = i
   ·subst he; rw [if_pos (by omega), if_pos rfl]
   ·rw [if_neg (by omega), if_neg he]
  ·rw [List.getD_eq_getElem?_getD, List.getElem?_set_ne (by omega), ← List.getD_eq_getElem?_getD, if_neg (by omega)]
 ·simp only [hj, decide_false, Bool.false_and]
  rw [if_neg (by omega)]
/-- All bits that are set. -/
def nbits (l : List Int) : List Nat := (List.range (8 * l.length)).filter (bit l)
theorem bit_app_lo (l : List Int) (c : Int) (n : Nat) (h : n < 8 * l.length) : bit (l ++ [c]) n = bit l n := by
 unfold bit
 rw [List.getD_eq_getElem?_getD, List.getD_eq_getElem?_getD, List.getElem?_append_left (by omega)]
theorem bit_app_hi (l : List Int) (c : Int) (m : Nat) (h : m < 8) : bit (l ++ [c]) (8 * l.length + m) = c.toNat.testBit m := by
 unfold bit
 rw [show (8 * l.length + m) / 8 = l.length by omega, show (8 * l.length + m) % 8 = m by omega, List.getD_eq_getElem?_getD, List.getElem?_append_right (by omega)]
 simp
theorem bitsOf_is (l : List Int) : bitsOf l = (nbits l).map Int.ofNat := by
 refine snocRec (p := fun l => bitsOf l = (nbits l).map Int.ofNat) ?_ ?_ l
 ·rfl
 ·intro l c ih
  unfold bitsOf at ih ⊢
  rw [bitsFrom_append, ih]
  unfold nbits
  rw [List.length_append, List.length_singleton, show 8 * (l.length + 1) = 8 * l.length + 8 by omega, List.range_add, List.filter_append, List.map_append]
  congr 1
  ·congr 1
   apply List.filter_congr
   intro n hn
   rw [bit_app_lo l c n (List.mem_range.1 hn)]
  ·simp only [bitsFrom, List.append_nil, bits8, List.map_map, List.filter_map]
   rw [show List.filter (bit (l ++ [c]) ∘ fun x => 8 * l.length + x) (List.range 8) = List.filter (fun j => c.toNat.testBit j) (List.range 8) from List.filter_congr fun m hm => bit_app_hi l c m (List.mem_range.1 hm)]
   apply List.map_congr_left
   intro m _
   simp
theorem wrapI {n : Int} (h : -9223372036854775808 ≤ n ∧ n ≤ 9223372036854775807) : wrap64 n = n := by unfold wrap64; omega
/-- Rising, from a on, below z. -/
def Rise : Int → Int → List Int → Prop
 | _, _, [] => True
 | a, z, x :: xs => a ≤ x ∧ x < z ∧ Rise (x + 1) z xs
theorem Rise.mem {xs : List Int} : ∀ {a z : Int}, Rise a z xs → ∀ x ∈ xs, a ≤ x ∧ x < z := by
 induction xs with
 | nil => intro a z _ x hx; simp at hx
 | cons y ys ih =>
  intro a z h x hx
  rcases List.mem_cons.1 hx with rfl | hx
  ·exact ⟨h.1, h.2.1⟩
  ·have := ih h.2.2 x hx; have := h.1; omega
theorem rise_filter (p : Nat → Bool) (d : Nat) : ∀ k : Nat, Rise (k : Int) ((k + d : Nat) : Int) (((List.range' k d).filter p).map Int.ofNat) := by
 induction d with
 | zero => intro k; simp [Rise]
 | succ d ih =>
  intro k
  rw [List.range'_succ, List.filter_cons]
  have h := ih (k + 1)
  rw [show k + 1 + d = k + (d + 1) by omega] at h
  split
  ·simp only [List.map_cons, Rise]
   exact ⟨Int.le_refl _, by show (k : Int) < _; omega, h⟩
  ·have : ∀ (a a' z : Int) (xs : List Int), a ≤ a' → Rise a' z xs → Rise a z xs := by
    intro a a' z xs ha hx
    cases xs with
    | nil => trivial
    | cons x xs => exact ⟨Int.le_trans ha hx.1, hx.2.1, hx.2.2⟩
   exact this _ _ _ _ (by omega) h
theorem bitsOf_rise (l : List Int) : Rise 0 (8 * (l.length : Int)) (bitsOf l) := by
 rw [bitsOf_is, nbits, List.range_eq_range']
 have := rise_filter (bit l) (8 * l.length) 0
 simpa using this
theorem mem_bitsOf (l : List Int) (x : Int) : x ∈ bitsOf l ↔ bitI l x = true := by
 rw [bitsOf_is, nbits]
 constructor
 ·intro h
  obtain ⟨n, hn, rfl⟩ := List.mem_map.1 h
  have := (List.mem_filter.1 hn).2
  unfold bitI
  simp only [Int.ofNat_eq_natCast, Int.toNat_natCast, this]
  simp
 ·intro h
  unfold bitI at h
  simp only [Bool.and_eq_true, decide_eq_true_eq] at h
  obtain ⟨n, rfl⟩ := Int.eq_ofNat_of_zero_le h.1
  refine List.mem_map.2 ⟨n, List.mem_filter.2 ⟨List.mem_range.2 ?_, by simpa using h.2⟩, rfl⟩
  rcases Nat.lt_or_ge n (8 * l.length) with hh | hh
  ·exact hh
  ·have := bit_out l n (by omega)
   simp [this] at h
/-- What Make answers: the bits of some numbers set, one after the other. -/
def mkL : List Int → List Int → List Int × Int
 | x, [] => (x, 0)
 | x, i :: t => if i < 0 ∨ i / 8 ≥ (x.length : Int) then ([], 2) else mkL (setL x i true).1 t
theorem setL_len' (l : List Int) (i : Int) (on : Bool) (h : ¬ (i < 0 ∨ i / 8 ≥ (l.length : Int))) : (setL l i on).1.length = l.length := by
 rw [setL_ok l i on (by omega) (by omega)]; simp
theorem make_l0 (n : Nat) (hn : n ≤ 64) (ns : List Int) (hns : ns.length ≤ 1000) (hb : ∀ y ∈ ns, -9223372036854775808 ≤ y ∧ y ≤ 9223372036854775807) (d : Nat) : ∀ (x : List Int) (i : Nat), Bytes x → x.length = n → ns.length - i = d → i ≤ ns.length →
  Ev (fun k => bitset_Make.l0 k (n : Int) x ns (ns.length : Int) (i : Int)) (mkL x (ns.drop i)) := by
 induction d with
 | zero =>
  intro x i hl hx hd hi
  rw [List.drop_of_length_le (by omega)]
  refine Ev.step (f := fun _ => some (x, 0)) (fun k => ?_) (Ev.now _)
  simp only [bitset_Make.l0]
  rw [if_neg (by omega)]
 | succ d ih =>
  intro x i hl hx hd hi
  have hit : i < ns.length := by omega
  have e1 : rd ns (i : Int) = ns[i] := by simp [rd, List.getD_eq_getElem?_getD, hit]
  have hy := hb ns[i] (List.getElem_mem hit)
  rw [List.drop_eq_getElem_cons hit]
  unfold mkL
  by_cases he : ns[i] < 0 ∨ ns[i] / 8 ≥ (x.length : Int)
  ·rw [if_pos he]
   refine Ev.step (f := fun _ => some ([], 2)) (fun k => ?_) (Ev.now _)
   simp only [bitset_Make.l0, e1]
   rw [if_pos (by omega), if_pos (by omega), if_pos (by omega)]
   by_cases h0 : ns[i] < 0
   ·rw [if_pos h0]
   ·rw [if_neg h0, wrapI (by omega), if_pos (by omega)]
  ·rw [if_neg he]
   refine Ev.step (fun k => ?_) (ih (setL x ns[i] true).1 (i + 1) (setL_bytes hl _ _) (by rw [setL_len' _ _ _ he, hx]) (by omega) (by omega))
   simp only [bitset_Make.l0, e1]
   obtain ⟨c, hc, e2, e3⟩ := nat_at x hl ns[i] (by omega)
   obtain ⟨m, hm, hm8⟩ : ∃ m : Nat, ns[i] % 8 = (m : Int) ∧ m < 8 := ⟨(ns[i] % 8).toNat, by omega, by omega⟩
   rw [if_pos (by omega), if_pos (by omega), if_pos (by omega), if_neg (by omega), wrapI (show _ ≤ 8 * (n : Int) ∧ _ by omega), if_neg (by omega), div8 _ (by omega) hy.2, Int.tmod_eq_emod_of_nonneg (by omega), if_pos (by omega), if_pos (by omega), if_pos (by omega), wrapI (by omega), e2, hm, set_byte_on c hc m hm8,
    setL_ok x ns[i] true (by omega) (by omega), e3, hm, Int.toNat_natCast]
   rfl
theorem make_is (a : Int) (ns : List Int) (hns : ns.length ≤ 1000) (hb : ∀ y ∈ ns, -9223372036854775808 ≤ y ∧ y ≤ 9223372036854775807) : Ev (fun k => bitset_Make.f k a ns) (if a < 0 ∨ a > 64 then ([], 2) else mkL (List.replicate a.toNat 0) ns) := by
 unfold bitset_Make.f
 by_cases h : a < 0 ∨ a > 64
 ·rw [if_pos h]
  refine Ev.congr (f := fun k => bitset_Make.j0 k a ns true) (fun k => ?_) (Ev.step (f := fun _ => some ([], 2)) (fun k => by simp [bitset_Make.j0]) (Ev.now _))
  by_cases h0 : a < 0
  ·rw [if_pos h0]
  ·rw [if_neg h0, show decide (a > 64) = true by simp; omega]
 ·rw [if_neg h]
  obtain ⟨n, rfl⟩ := Int.eq_ofNat_of_zero_le (show 0 ≤ a by omega)
  have := make_l0 n (by omega) ns hns hb _ (List.replicate n 0) 0 (fun y hy => by rw [(List.mem_replicate.1 hy).2]; omega) (by simp) rfl (by omega)
  rw [List.drop_zero] at this
  refine Ev.congr (f := fun k => bitset_Make.j0 k (n : Int) ns false) (fun k => ?_) (Ev.step (fun k => ?_) this)
  ·rw [if_neg (by omega), show decide ((n : Int) > 64) = false by simp; omega]
  ·simp only [bitset_Make.j0, Int.toNat_natCast]
   rw [if_neg (by simp), if_pos (by omega), if_pos (by omega)]
   rfl
theorem mkL_ok (t : List Int) : ∀ (x : List Int), Bytes x → (∀ i ∈ t, 0 ≤ i ∧ i / 8 < (x.length : Int)) → ∃ y, mkL x t = (y, 0) ∧ Bytes y ∧ y.length = x.length ∧ ∀ j, bitI y j = (bitI x j || decide (j ∈ t)) := by
 induction t with
 | nil => intro x hl h; exact ⟨x, rfl, hl, rfl, fun j => by simp⟩
 | cons i t ih =>
  intro x hl h
  have hi := h i (by simp)
  have hne : ¬ (i < 0 ∨ i / 8 ≥ (x.length : Int)) := by omega
  obtain ⟨y, h1, h2, h3, h4⟩ := ih (setL x i true).1 (setL_bytes hl _ _) (fun j hj => by rw [setL_len' _ _ _ hne]; exact h j (by simp [hj]))
  refine ⟨y, by unfold mkL; rw [if_neg hne]; exact h1, h2, by rw [h3, setL_len' _ _ _ hne], fun j => ?_⟩
  rw [h4, bitI_set hl i true hi.1 hi.2]
  by_cases hj : j = i
  ·simp [hj]
  ·simp [hj]
end Go.Proofs.Ytehjmmedghcndaa.PG.Bt
