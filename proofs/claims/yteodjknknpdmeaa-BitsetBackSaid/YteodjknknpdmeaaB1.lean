import Derived.Test.YteodjknknpdmeaaB0
import Derived.Test.YteodjknknpdmeaaPGx5
import Derived.Test.YteodjknknpdmeaaPGx7
/-! Plain laws of the bits of bytes, 2: the list of the bits, their number, the first one that is not set. -/
namespace Go.Proofs.Yteodjknknpdmeaa.Pure
open Go.RowKit
open Go.Proofs.Yteodjknknpdmeaa.PG Go.Proofs.YteodjknknpdmeaaW.PrintWords Go.Proofs.YteodjknknpdmeaaW.PrintLast Go.Proofs.YteodjknknpdmeaaW.PrintMore
/-- All bits that are set. -/
def nbits (l : List Int) : List Nat := (List.range (8 * l.length)).filter (bit l)
theorem bit_app_lo (l : List Int) (c : Int) (n : Nat) (h : n < 8 * l.length) : bit (l ++ [c]) n = bit l n := by
  unfold bit
  rw [List.getD_eq_getElem?_getD, List.getD_eq_getElem?_getD, List.getElem?_append_left (by omega)]
theorem bit_app_hi (l : List Int) (c : Int) (m : Nat) (h : m < 8) : bit (l ++ [c]) (8 * l.length + m) = c.toNat.testBit m := by
  unfold bit
  rw [show (8 * l.length + m) / 8 = l.length by omega, show (8 * l.length + m) % 8 = m by omega, List.getD_eq_getElem?_getD, List.getElem?_append_right (by omega)]
  simp
theorem bitsOf_is (l : List Int) : bitsOf l = (nbits l).map Int.ofNat := by
  refine snocRec (p := fun l => bitsOf l = (nbits l).map Int.ofNat) ?_ ?_ l
  · rfl
  · intro l c ih
    unfold bitsOf at ih ⊢
    rw [bitsFrom_append, ih]
    unfold nbits
    rw [List.length_append, List.length_singleton, show 8 * (l.length + 1) = 8 * l.length + 8 by omega, List.range_add, List.filter_append, List.map_append]
    congr 1
    · congr 1
      apply List.filter_congr
      intro n hn
      rw [bit_app_lo l c n (List.mem_range.1 hn)]
    · simp only [bitsFrom, List.append_nil, bits8, List.map_map, List.filter_map]
      rw [show List.filter (bit (l ++ [c]) ∘ fun x => 8 * l.length + x) (List.range 8) = List.filter (fun j => c.toNat.testBit j) (List.range 8) from List.filter_congr fun m hm => bit_app_hi l c m (List.mem_range.1 hm)]
      apply List.map_congr_left
      intro m _
      simp
theorem fine_of {l : List Int} (h : Bytes l) (hn : l.length ≤ 1099511627776) : Fine l := ⟨h, hn⟩
theorem wrapI {n : Int} (h : -9223372036854775808 ≤ n ∧ n ≤ 9223372036854775807) : wrap64 n = n := by unfold wrap64; omega
theorem refList_l0 (l : List Int) (hl : Bytes l) (hn : l.length ≤ 80) (d : Nat) : ∀ (acc : List Int) (i : Nat), 8 * l.length - i = d → i ≤ 8 * l.length → acc.length ≤ i →
    Ev (fun k => selvedgeref02_List.l0 k l acc (i : Int)) (acc ++ ((List.range' i (8 * l.length - i)).filter (bit l)).map Int.ofNat) := by
  induction d with
  | zero =>
    intro acc i hd hi ha
    refine Ev.step (f := fun _ => some acc) (fun k => ?_) ?_
    · simp only [selvedgeref02_List.l0]
      rw [wrapI (by omega), if_neg (by omega)]
    · rw [hd]; simpa using Ev.now acc
  | succ d ih =>
    intro acc i hd hi ha
    have hg := refget_is l (i : Int) hl (by omega)
    have hb : bitI l (i : Int) = bit l i := by simp [bitI]
    rw [show 8 * l.length - i = d + 1 from hd, List.range'_succ, List.filter_cons]
    cases hbit : bit l i with
    | true =>
      have := ih (acc ++ [(i : Int)]) (i + 1) (by omega) (by omega) (by simp; omega)
      rw [show 8 * l.length - (i + 1) = d by omega] at this
      refine Ev.step (f := fun k => selvedgeref02_List.l0 k l (acc ++ [(i : Int)]) ((i + 1 : Nat) : Int)) (fun k => ?_) ?_
      · simp only [selvedgeref02_List.l0]
        rw [wrapI (by omega), if_pos (by omega), hg]
        simp only [Option.bind_some, hb, hbit, if_true]
        rw [if_pos (by omega), wrapI (by omega)]
        rfl
      · simpa using this
    | false =>
      have := ih acc (i + 1) (by omega) (by omega) (by omega)
      rw [show 8 * l.length - (i + 1) = d by omega] at this
      refine Ev.step (f := fun k => selvedgeref02_List.l0 k l acc ((i + 1 : Nat) : Int)) (fun k => ?_) ?_
      · simp only [selvedgeref02_List.l0]
        rw [wrapI (by omega), if_pos (by omega), hg]
        simp only [Option.bind_some, hb, hbit]
        rw [if_neg (by simp), wrapI (by omega)]
        rfl
      · simpa using this
theorem refList_is (l : List Int) (hl : Bytes l) (hn : l.length ≤ 80) : Ev (fun k => selvedgeref02_List.f k l) (bitsOf l) := by
  have := refList_l0 l hl hn _ [] 0 rfl (by omega) (by simp)
  rw [bitsOf_is, nbits, List.range_eq_range']
  unfold selvedgeref02_List.f
  simpa using this
theorem list_is (l : List Int) (hl : Bytes l) (hn : l.length ≤ 80) : bitset_List.f l = some (bitsOf l) := by
  unfold bitset_List.f
  rw [if_pos (fine_of hl (by omega))]
theorem runs_is (l : List Int) (hl : Bytes l) (hn : l.length ≤ 80) : bitset_Runs.f l = some (runs (bitsOf l)) := by
  unfold bitset_Runs.f
  rw [if_pos (fine_of hl (by omega))]
theorem ones_nat : ∀ c : Nat, c < 256 → bits_OnesCount8.f (c : Int) = some ((bits8 (c : Int)).length : Int) := by decide +kernel
theorem count_l0 (l : List Int) (hl : Bytes l) (hn : l.length ≤ 80) (d : Nat) : ∀ (i : Nat), l.length - i = d → i ≤ l.length →
    Ev (fun k => bitset_Count.l0 k l ((bitsOf (l.take i)).length : Int) (l.length : Int) (i : Int)) ((bitsOf l).length : Int) := by
  induction d with
  | zero =>
    intro i hd hi
    obtain rfl : i = l.length := by omega
    refine Ev.step (f := fun _ => some ((bitsOf l).length : Int)) (fun k => ?_) (Ev.now _)
    simp only [bitset_Count.l0, List.take_length]
    rw [if_neg (by omega)]
  | succ d ih =>
    intro i hd hi
    have hc := hl.at_ i
    have ho := ones_nat (l.getD i 0).toNat (by omega)
    have e : ((l.getD i 0).toNat : Int) = l.getD i 0 := by omega
    rw [e] at ho
    have hts := bitsFrom_take_succ l i (by omega)
    have h8 := bits8_len (l.getD i 0)
    have hlen := bitsOf_len (l.take i)
    rw [List.length_take] at hlen
    refine Ev.step (f := fun k => bitset_Count.l0 k l ((bitsOf (l.take (i + 1))).length : Int) (l.length : Int) ((i + 1 : Nat) : Int)) (fun k => ?_) (ih (i + 1) (by omega) (by omega))
    simp only [bitset_Count.l0]
    rw [if_pos (by omega), if_pos (by omega), if_pos (by omega), show rd l (i : Int) = l.getD i 0 by simp [rd], ho]
    simp only [Option.bind_some]
    rw [wrapI (by omega), wrapI (by omega), hts, List.length_append, List.length_map]
    simp
theorem count_is (l : List Int) (hl : Bytes l) (hn : l.length ≤ 80) : Ev (fun k => bitset_Count.f k l) ((bitsOf l).length : Int) := by
  have := count_l0 l hl hn _ 0 rfl (by omega)
  simpa [bitset_Count.f, bitsOf, bitsFrom] using this
theorem refcount_is (l : List Int) (hl : Bytes l) (hn : l.length ≤ 80) : Ev (fun k => selvedgeref02_Count.f k l) ((bitsOf l).length : Int) := by
  unfold selvedgeref02_Count.f
  exact Ev.bind (refList_is l hl hn) (Ev.now _)
theorem live_ev : Ev (fun k => selvedgelaw02_live.f k) true := ⟨20, live_is⟩
theorem same_l0 (a b : List Int) (hab : a = b) (hn : a.length ≤ 1000) (d : Nat) : ∀ i : Nat, a.length - i = d → i ≤ a.length → Ev (fun k => selvedgeref01_Same.l0 k a b (i : Int)) true := by
  subst hab
  induction d with
  | zero =>
    intro i hd hi
    refine Ev.step (f := fun _ => some true) (fun k => ?_) (Ev.now _)
    simp only [selvedgeref01_Same.l0]
    rw [if_neg (by omega)]
  | succ d ih =>
    intro i hd hi
    refine Ev.step (f := fun k => selvedgeref01_Same.l0 k a a ((i + 1 : Nat) : Int)) (fun k => ?_) (ih (i + 1) (by omega) (by omega))
    simp only [selvedgeref01_Same.l0]
    rw [if_pos (by omega), if_pos (by omega), if_pos (by omega), if_pos trivial, wrapI (by omega)]
    rfl
theorem same_is (a : List Int) (hn : a.length ≤ 1000) : Ev (fun k => selvedgeref01_Same.f k a a) true := by
  have := same_l0 a a rfl hn _ 0 rfl (by omega)
  refine Ev.congr (f := fun k => selvedgeref01_Same.l0 k a a ((0 : Nat) : Int)) (fun k => ?_) this
  unfold selvedgeref01_Same.f
  rw [if_pos rfl]
  rfl
end Go.Proofs.Yteodjknknpdmeaa.Pure
