import Derived.Test.YtehjmmedghcndaaCP
import Derived.Test.YtehjmmedghcndaaG1
/-! BinarySearch, plain; cyl.insert; cyl.may. -/
namespace Go.Proofs.Ytehjmmedghcndaa.PG
open Go.RowKit Go.Proofs.YtehjmmedghcndaaW.PrintWords Go.Proofs.YtehjmmedghcndaaW.PrintLast Go.Proofs.YtehjmmedghcndaaW.PrintMore
attribute [local go_sem] Oper.semAt_some
theorem mid_is (i j : Nat) (hi : i ≤ 1000) (hj : j ≤ 1000) : wrap64 ((IntKind.u64.wrap (wrap64 ((i : Int) + (j : Int)))) / 2) = (((i + j) / 2 : Nat) : Int) := by
 have e1 : wrap64 ((i : Int) + (j : Int)) = ((i + j : Nat) : Int) := by unfold wrap64; omega
 have e2 : IntKind.u64.wrap ((i + j : Nat) : Int) = ((i + j : Nat) : Int) := by
  simp [IntKind.wrap, IntKind.signed, IntKind.bits]; omega
 rw [e1, e2]
 unfold wrap64
 omega
theorem less_is (a b : Int) : cmp_Less_int.f a b = some (decide (a < b)) := by
 unfold cmp_Less_int.f cmp_isNaN_int.f
 simp
theorem nan_is (a : Int) : slices_isNaN_int.f a = some false := by
 unfold slices_isNaN_int.f
 simp
theorem up_lt {l : List Int} (h : upB l = true) {s t : Nat} (hst : s < t) (ht : t < l.length) : l[s]'(by omega) < l[t] := List.pairwise_iff_getElem.1 (upB_pairwise h) s t (by omega) ht hst
theorem ix_at (l : List Int) (x : Int) (i : Nat) (hi : i ≤ l.length) (h1 : ∀ t (h : t < i), l[t]'(by omega) < x) (h2 : ∀ t (h : t < l.length), i ≤ t → x ≤ l[t]) : ixOf l x = i := by
 unfold ixOf
 rw [← List.take_append_drop i l, List.countP_append]
 have e1 : (l.take i).countP (· < x) = i := by
  have : (l.take i).countP (· < x) = (l.take i).length := List.countP_eq_length.2 fun y hy => by
   obtain ⟨t, ht, rfl⟩ := List.mem_iff_getElem.1 hy
   rw [List.length_take] at ht
   rw [List.getElem_take]
   exact decide_eq_true (h1 t (by omega))
  rw [this, List.length_take]; omega
 have e2 : (l.drop i).countP (· < x) = 0 := List.countP_eq_zero.2 fun y hy => by
  obtain ⟨t, ht, rfl⟩ := List.mem_iff_getElem.1 hy
  rw [List.length_drop] at ht
  rw [List.getElem_drop]
  have := h2 (i + t) (by omega) (by omega)
  simp; omega
 rw [e1, e2]; rfl
theorem has_at (l : List Int) (hu : upB l = true) (x : Int) (i : Nat) (hi : i < l.length) (h1 : ∀ t (h : t < i), l[t]'(by omega) < x) (h2 : ∀ t (h : t < l.length), i ≤ t → x ≤ l[t]) : l.contains x = decide (l[i] = x) := by
 by_cases h : l[i] = x
 ·rw [decide_eq_true h, List.contains_iff_mem]
  exact h ▸ List.getElem_mem hi
 ·rw [decide_eq_false h]
  cases hc : l.contains x with
  | false => rfl
  | true =>
   obtain ⟨t, ht, e⟩ := List.mem_iff_getElem.1 (List.contains_iff_mem.1 hc)
   rcases Nat.lt_trichotomy t i with g | g | g
   ·have := h1 t g; omega
   ·subst g; exact absurd e h
   ·have := up_lt hu g ht
    have := h2 i hi (Nat.le_refl _)
    omega
theorem bs_l0 (l : List Int) (hu : upB l = true) (hl : l.length ≤ 1000) (x : Int) : ∀ (q i j : Nat) (k : Nat), j - i ≤ q → i ≤ j → j ≤ l.length → (∀ t (h : t < i) (h2 : t < l.length), l[t] < x) → (∀ t (h : t < l.length), j ≤ t → x ≤ l[t]) → slices_BinarySearch_int_int.l0 (k + q + 1) l x (l.length : Int) (i : Int) (j : Int) = some ((ixOf l x : Int), l.contains x)
 | q, i, j, k, hq, hij, hj, h1, h2 => by
  by_cases hlt : i < j
  ·obtain ⟨q, rfl⟩ : ∃ q', q = q' + 1 := ⟨q - 1, by omega⟩
   have hm : (i + j) / 2 < l.length := by omega
   rw [slices_BinarySearch_int_int.l0, if_pos (by omega), mid_is i j (by omega) (by omega), if_pos (by omega), if_pos (by omega), rd_at l _ hm, less_is, Option.bind_some]
   by_cases hx : l[(i + j) / 2] < x
   ·rw [decide_eq_true hx, if_pos rfl, w64s _ (by omega)]
    exact bs_l0 l hu hl x q ((i + j) / 2 + 1) j k (by omega) (by omega) hj (fun t h h3 => by
     rcases Nat.lt_or_ge t ((i + j) / 2) with g | g
     ·have := up_lt hu g hm; omega
     ·have : t = (i + j) / 2 := by omega
      subst this; exact hx) h2
   ·rw [decide_eq_false hx, if_neg (by decide)]
    exact bs_l0 l hu hl x q i ((i + j) / 2) k (by omega) (by omega) (by omega) h1 (fun t h h3 => by
     rcases Nat.lt_or_ge ((i + j) / 2) t with g | g
     ·have := up_lt hu g h; omega
     ·have : t = (i + j) / 2 := by omega
      subst this; omega)
  ·obtain rfl : i = j := by omega
   have hix := ix_at l x i hj (fun t h => h1 t h (by omega)) h2
   rw [slices_BinarySearch_int_int.l0, if_neg (by omega), hix]
   by_cases hi : i < l.length
   ·have hh := has_at l hu x i hi (fun t h => h1 t h (by omega)) h2
    rw [if_pos (by omega), if_pos (by omega), if_pos (by omega), rd_at l i hi, hh]
    by_cases h : l[i] = x
    ·rw [if_pos h, decide_eq_true h]
    ·rw [if_neg h, decide_eq_false h, nan_is, Option.bind_some, if_neg (by decide)]
   ·rw [if_neg (by omega)]
    have hc : l.contains x = false := by
     cases hc : l.contains x with
     | false => rfl
     | true =>
      obtain ⟨t, ht, e⟩ := List.mem_iff_getElem.1 (List.contains_iff_mem.1 hc)
      have := h1 t (by omega) ht
      omega
    rw [hc]
theorem bs_is (l : List Int) (hu : upB l = true) (hl : l.length ≤ 1000) (x : Int) (k : Nat) : slices_BinarySearch_int_int.f (k + 1001) l x = some ((ixOf l x : Int), l.contains x) :=
 bs_l0 l hu hl x 1000 0 l.length k (by omega) (by omega) (Nat.le_refl _) (fun t h => by omega) (fun t _ h2 => by omega)
/-! ### insert -/
set_option maxHeartbeats 1000000 in
theorem insert_new (A0 : Option Addr) (c0 : Nat) (l : List Int) (x : Int) (w : World) (hr0 : Kd.C (Kd.int .i64) w A0 l.length l) (hc0 : l.length ≤ c0) (hu : upB l = true) (hl : l.length ≤ 1000) (hx : l.contains x = false) :
  Calls Try.prog 49 #[.slice A0 l.length c0, .int .i64 x] w fun e w' => ∃ v, e = .returned (.tuple #[v, .bool true]) ∧ Kd.R (Kd.int .i64) 3 w' w.heap.size (fun _ => True) v (putAt l (ixOf l x) x) ∧ Below w.heap.size w w' := by
 have hbs := bs_is l hu hl x 0
 rw [hx] at hbs
 have hB := slices_BinarySearch_int_int.calls (0 + 1001) A0 c0 l x (ixOf l x : Int) false w hr0 hc0 hbs
 have hcl : slices_Clone_int_int.f l = some l := if_pos (by omega)
 have hC := fun nd => slices_Clone_int_int.calls A0 c0 l l (w.drewN nd) (Kd.C_drewN hr0 nd) hc0 hcl
 have hix := ixOf_le l x
 generalize ixOf l x = i at *
 have HL := Aside0.mk hl
 have HI := Aside0.mk hix
 have HB := fun nd => Aside0.mk (show Below w.heap.size w (w.drewN nd) from pw_below_drewN (Below.refl _ _) nd)
 clear hbs hcl hu hx hr0 hc0 hl hix
 go_enter Try.func49, Try.ntmps49
 go_wp2_with (first | (go_at_call 74; with_reducible refine hB.mono ?_; rintro e w1 ⟨rfl, ⟨nd, rfl⟩⟩; clear hB) | (go_at_call 76; refine (hC _).mono ?_; rintro e w2 ⟨v1, rfl, hR, hb⟩; have HR := Aside0.mk hR; have HB2 := Aside0.mk (below_step (HB nd).out hb); clear hR hb hC HB) | (go_at_call 75; refine (insert75 w.heap.size w _ (HB2.out.alloc HB2.out.size _) (by have := HB2.out.size; simp; omega) v1 l x i HI.out HL.out ((Kd.own_of_R HR.out).alloc _) w2.heap.size (Go.Deep.blk_alloc_new _ _) (fun e => by have := ((Kd.own_of_R HR.out).lt _ e).2; omega)).mono ?_; rintro e w3 ⟨v, rfl, ho, hb⟩; have HO := Aside0.mk ho; have HB3 := Aside0.mk hb; clear ho hb))
 go_ret2
 exact ⟨_, rfl, Kd.R_of_own HO.out (fun _ _ => trivial), HB3.out⟩
set_option maxHeartbeats 1000000 in
theorem insert_has (A0 : Option Addr) (c0 : Nat) (l : List Int) (x : Int) (w : World) (hr0 : Kd.C (Kd.int .i64) w A0 l.length l) (hc0 : l.length ≤ c0) (hu : upB l = true) (hl : l.length ≤ 1000) (hx : l.contains x = true) :
  Calls Try.prog 49 #[.slice A0 l.length c0, .int .i64 x] w fun e w' => e = .returned (.tuple #[.slice A0 l.length c0, .bool false]) ∧ ∃ n, w' = w.drewN n := by
 have hbs := bs_is l hu hl x 0
 rw [hx] at hbs
 have hB := slices_BinarySearch_int_int.calls (0 + 1001) A0 c0 l x (ixOf l x : Int) true w hr0 hc0 hbs
 generalize ixOf l x = i at *
 clear hbs hu hx hr0 hc0 hl
 go_enter Try.func49, Try.ntmps49
 go_wp2_with (first | (go_at_call 74; with_reducible refine hB.mono ?_; rintro e w1 ⟨rfl, ⟨nd, rfl⟩⟩; clear hB))
 go_ret2
 exact ⟨rfl, nd, rfl⟩
end Go.Proofs.Ytehjmmedghcndaa.PG
