import Derived.Test.YtehjmmedghcndaaPGx0
import Derived.Test.YtehjmmedghcndaaJ7
import Derived.Test.YtehjmmedghcndaaWMore
import Derived.Shelf.Slices.Delete
import Derived.Shelf.Spec.SlicesInsertGrow
import Derived.Lib.LazyBuf
import Derived.Lib.OwnBridge
import Derived.WalkKit
import Derived.Lib.Hide
import Derived.Maps.AppendAt
/-! Contracts of slices.Clone, Delete, BinarySearch, Insert over ints; cyl.insert where the number is not there yet. -/
namespace Go.Proofs.Ytehjmmedghcndaa.PG
open Go.RowKit Go.Proofs.YtehjmmedghcndaaW.PrintWords Go.Proofs.YtehjmmedghcndaaW.PrintLast Go.Proofs.YtehjmmedghcndaaW.PrintMore
open Go.Shelf Go.Sort
attribute [local go_sem] Oper.semAt_some
/-! ### Clone -/
def slices_Clone_int_int.f (l0 : List Int) : Option (List Int) := if l0.length < 17592186044416 then some l0 else none
set_option maxHeartbeats 1000000 in
theorem slices_Clone_int_int.calls (A0 : Option Addr) (c0 : Nat) (l0 : List Int) (r : List Int) (w : World) (hr0 : Kd.C (Kd.int .i64) w A0 l0.length l0) (hc0 : l0.length ≤ c0) (h : slices_Clone_int_int.f l0 = some r) :
  Calls Try.prog 76 #[.slice A0 l0.length c0] w fun e w' => ∃ v0_ : Value, e = .returned (v0_) ∧ Kd.R (Kd.int .i64) 3 w' w.heap.size (fun _ => True) v0_ r ∧ Below w.heap.size w w' := by
 unfold slices_Clone_int_int.f at h
 by_cases hl : l0.length < 17592186044416
 ·rw [if_pos hl] at h
  obtain rfl := Option.some.inj h
  have heq := Lib.run_eql_slice_nil (P := Try.prog) w 40 3 A0 l0.length c0 0 0 Try.underlying40
  have HR0 := Aside0.mk hr0
  have LM := Aside0.mk hl
  have HB := Aside0.mk (Below.refl w.heap.size w)
  clear h hr0 hl hc0
  cases A0 with
  | none =>
   replace heq : (binOp .eql 40 (.slice none 0 c0) (.slice none 0 0)).run Try.prog w = .ok (.bool true) w := by
    have e : l0.length = 0 := by
     rcases Nat.eq_zero_or_pos l0.length with h | h
     ·exact h
     ·obtain ⟨ad, e, _⟩ := HR0.out.2.2 h
      exact absurd e (by simp)
    rw [e] at heq; exact heq
   have h0 : l0 = [] := by
    rcases Nat.eq_zero_or_pos l0.length with h | h
    ·exact List.eq_nil_of_length_eq_zero h
    ·obtain ⟨ad, e, _⟩ := HR0.out.2.2 h
     exact absurd e (by simp)
   subst h0
   go_enter Try.func76, Try.ntmps76
   go_wp2
   go_ret
   exact ⟨_, rfl, Kd.R_nil _ _ _ _ _, HB.out⟩
  | some ad =>
   replace heq : (binOp .eql 40 (.slice (some ad) l0.length c0) (.slice none 0 0)).run Try.prog w = .ok (.bool false) w := heq
   go_enter Try.func76, Try.ntmps76
   go_wp2_with (first | ((with_reducible refine gate_dst (N := 5) rfl ?_); refine Kd.R_lit (Kd.int .i64) _ 3 ?hg (N := 5) ?hd (xs := ([] : List Int)) (inner := []) (ok := fun _ => True) (okp := fun _ => True) ?hr ?hp (fun _ hk => hk) trivial (Below.refl _ _) (Nat.le_refl _) (by simp) ?_; (case hd => rfl); (case hg => rfl); (case hr => first | (go_simp; done) | (go_simp; rfl)); (case hp => exact (Reps.none _ _)); intro v1 w1 ho1 hb1 hg_ hnew_; clear hg_ hnew_) | ((with_reducible refine gate_builtin (b := .append) (xs := #[.tmp 5, .tmp 6]) rfl ?_); at_builtin; refine Kd.R_append_rows (Kd.int .i64) (w0 := w) w.heap.size rfl (.tmp 5) (.tmp 6) 40 3 (.int .i64 0) 8 rfl Try.underlying40 info3 rfl (by decide) (by omega) v1 [] l0 _ _ _ (fun _ => True) (fun _ => False) rfl rfl ho1 (Kd.C_below HR0.out hb1) (fun _ _ h => h) (fun _ h => h.elim) (fun _ _ => trivial) hb1 hb1.size ?aL ?_; (case aL => have := LM.out; simp; omega); intro v2 w2 ho hb hg hat))
   go_ret
   exact ⟨_, rfl, by simpa using ho, hb⟩
 ·rw [if_neg hl] at h
  exact absurd h (by simp)
/-! ### Delete -/
/-! ### Insert of one number -/
def renI : Ren := ⟨fun x => if x = 21 then 75 else if x = 27 then 83 else if x = 28 then 84 else if x = 35 then 89 else if x = 39 then 90 else x, fun x => if x = 22 then 40 else x, fun x => x⟩
theorem laysI : Lays2.n21 Try.prog renI where
 mixed := by kernel_rfl
 f21 := by kernel_rfl
 f27 := by kernel_rfl
 f28 := by kernel_rfl
 f35 := by kernel_rfl
 f39 := by kernel_rfl
 t0 := by kernel_rfl
 a0 := fun w => by kernel_rfl
 z0 := fun w => by kernel_rfl
 v0 := fun w => by kernel_rfl
 t3 := by kernel_rfl
 a3 := fun w => by kernel_rfl
 z3 := fun w => by kernel_rfl
 v3 := fun w => by kernel_rfl
 t4 := by kernel_rfl
 a4 := fun w => by kernel_rfl
 z4 := fun w => by kernel_rfl
 v4 := fun w => by kernel_rfl
 t22 := by kernel_rfl
 a22 := fun w => by kernel_rfl
 z22 := fun w => by kernel_rfl
 v22 := fun w => by kernel_rfl
 i3 := by kernel_rfl
theorem own_of_row {w : World} {base g n cap : Nat} {e : TypeId} {f : Nat → Value} {ys : List Value} (h : w.rowIs g e cap f) (hg : base ≤ g) (hlen : ys.length = n) (hn : n ≤ cap) (hcap : cap ≤ maxLen) (hf : ∀ (j : Nat) (v : Value), ys[j]? = some v → f j = v) :
  w.ownsRow base e 1 (.slice (some ⟨g, 0, none⟩) n cap) n ys := by
 obtain ⟨c, hb, hs, hc⟩ := h
 refine ⟨by omega, .inr ⟨g, cap, c, rfl, hg, hb, hn, hcap, by omega, ?_⟩⟩
 rw [Nat.mul_one]
 refine List.ext_getElem? fun j => ?_
 by_cases hj : j < n
 ·rw [List.getElem?_take_of_lt hj, Array.getElem?_toList, hc j (by omega)]
  have : ys[j]? = some (ys[j]'(by omega)) := List.getElem?_eq_getElem (by omega)
  rw [this, hf j _ this]
 ·rw [List.getElem?_eq_none (by simp; omega), List.getElem?_eq_none (by omega)]
theorem own_of_cells {w : World} {base g n cap : Nat} {e : TypeId} {cur : Array Value} {ys : List Value} (hb : w.heap[g]? = some (.cells cur e (0, 0))) (hg : base ≤ g) (hlen : ys.length = n) (hn : n ≤ cap) (hcap : cap ≤ maxLen) (hs : cur.size = cap) (hf : ∀ (j : Nat) (v : Value), ys[j]? = some v → cur[j]? = some v) :
  w.ownsRow base e 1 (.slice (some ⟨g, 0, none⟩) n cap) n ys :=
 own_of_row (f := fun j => cur[j]?.getD default) ⟨cur, hb, hs, fun j hj => by show cur[j]? = some (cur[j]?.getD default); rw [Array.getElem?_eq_getElem (by omega)]; rfl⟩ hg hlen hn hcap (fun j v h => by show cur[j]?.getD default = v; rw [hf j v h]; rfl)
/-- A list with one more in its place. -/
def putAt (l : List Int) (i : Nat) (x : Int) : List Int := l.take i ++ x :: l.drop i
theorem putAt_len (l : List Int) (i : Nat) (x : Int) : (putAt l i x).length = l.length + 1 := by simp [putAt]; omega
theorem putAt_get (l : List Int) (i : Nat) (x : Int) (hi : i ≤ l.length) (j : Nat) : ((putAt l i x).map (Value.int .i64))[j]? = if j < i then (l.map (Value.int .i64))[j]? else if j = i then some (.int .i64 x) else (l.map (Value.int .i64))[j - 1]? := by
 unfold putAt
 rw [List.map_append, List.map_cons]
 by_cases h : j < i
 ·rw [if_pos h, List.getElem?_append_left (by simp; omega), List.map_take, List.getElem?_take_of_lt h]
 ·rw [if_neg h, List.getElem?_append_right (by simp; omega)]
  have e : (List.map (Value.int IntKind.i64) (List.take i l)).length = i := by simp; omega
  rw [e]
  by_cases h2 : j = i
  ·subst h2; simp
  ·rw [if_neg h2, show j - i = (j - 1 - i) + 1 by omega, List.getElem?_cons_succ, List.map_drop, List.getElem?_drop, show i + (j - 1 - i) = j - 1 by omega]
set_option maxHeartbeats 1000000 in
theorem insert75 (base : Nat) (w0 W : World) (hb : Below base w0 W) (hbase : base ≤ W.heap.size) (v1 : Value) (l : List Int) (x : Int) (i : Nat) (hi : i ≤ l.length) (hl : l.length ≤ 1000) (ho : W.ownsRow base 3 1 v1 l.length (l.map (Value.int .i64))) (vb : Nat) (hvb : W.heap[vb]? = some (.cells #[.int .i64 x] 3 (0, 0))) (hne : v1.ownBlock ≠ some vb) :
  Calls Try.prog 75 #[v1, .int .i64 i, .slice (some ⟨vb, 0, none⟩) 1 1] W fun e w' => ∃ v, e = .returned v ∧ w'.ownsRow base 3 1 v (putAt l i x).length ((putAt l i x).map (Value.int .i64)) ∧ Below base w0 w' := by
 have hm9 : maxLen ≤ 9223372036854775807 := by unfold maxLen; omega
 have hm2 : 2000 ≤ maxLen := by unfold maxLen; omega
 have hvs : ∀ j v, [Value.int .i64 x][j]? = some v → W.cell? ⟨vb, 0 + j, none⟩ = some v := fun j v h => by
  cases j with
  | zero => cases h; simp [World.cell?, hvb]
  | succ j => simp at h
 have h1v : ∀ v ∈ [Value.int .i64 x], v.oneCell' = true := fun v h => by obtain rfl := List.mem_singleton.1 h; rfl
 have h1c : ∀ v ∈ l.map (Value.int .i64), v.oneCell' = true := fun v h => by obtain ⟨y, _, rfl⟩ := List.mem_map.1 h; rfl
 have hlen := putAt_len l i x
 rcases ho.2 with ⟨rfl, h0⟩ | ⟨g, cap, cur, rfl, hg, hgb, hn, hcap, hsz, htk⟩
 ·obtain rfl : l = [] := List.eq_nil_of_length_eq_zero h0
  obtain rfl : i = 0 := by simpa using hi
  refine (Any2.slices_Insert_int_end_grow laysI none 0 0 vb 0 1 1 [] [.int .i64 x] W (by omega) (by omega) (by omega) (by omega) rfl rfl (fun _ => rfl) (fun a h => by cases h) hvs h1v).mono ?_
  rintro e w' ⟨rfl, rfl⟩
  refine ⟨_, rfl, ?_, ?_⟩
  ·refine own_of_cells (Go.Deep.blk_alloc_new _ _) hbase (by simp [putAt]) (grownCap_ge _ _ _ _) (grownCap_le_maxLen _ _ _ _ (by omega)) ?_ ?_
   ·have := grownCap_ge W (0 + 1) 0 (renI.t 3)
    have e : (grownCap W (0 + 1) 0 (renI.t 3) - (0 + 1)) + 1 = grownCap W (0 + 1) 0 (renI.t 3) := by omega
    rw [Array.size_append, size_zeroCells, Nat.add_comm]
    exact (congrArg (· + 1) (Nat.mul_one _)).trans e
   ·intro j v h
    rw [putAt_get [] 0 x (Nat.le_refl _)] at h
    by_cases hj : j = 0
    ·subst hj; rw [Array.getElem?_append_left (by simp)]; simpa using h
    ·rw [if_neg (by omega), if_neg hj] at h; simp at h
  ·exact (hb.drew).alloc hbase _
 ·have hgc : ∀ j v, (l.map (Value.int .i64))[j]? = some v → cur[j]? = some v := fun j v h => by
   have hj : j < l.length := by have := (List.getElem?_eq_some_iff.1 h).1; simpa using this
   rw [← htk, Nat.mul_one, List.getElem?_take_of_lt hj, Array.getElem?_toList] at h
   exact h
  have hcs : ∀ j v, (l.map (Value.int .i64))[j]? = some v → W.cell? ⟨g, 0 + j, none⟩ = some v := fun j v h => by
   rw [Nat.zero_add]
   simp [World.cell?, hgb, hgc j v h]
  have hrow : W.rowIs g 3 cap (fun j => cur[j]?.getD default) := ⟨cur, hgb, by omega, fun j hj => by show cur[j]? = some (cur[j]?.getD default); rw [Array.getElem?_eq_getElem (by omega)]; rfl⟩
  have hsp : ∀ j, j < cap → (W.cell? ⟨g, 0 + j, none⟩).isSome = true := fun j hj => by rw [Nat.zero_add, hrow.cell hj]; rfl
  have hfz : ∀ j, W.frozen? ⟨g, 0 + j, none⟩ = false := fun j => hrow.frozen _
  have hvg : vb ≠ g := fun e => hne (by rw [e]; rfl)
  have hfv : ∀ o, W.frozen? ⟨vb, o, none⟩ = false := fun o => by simp [World.frozen?, hvb]
  by_cases hroom : l.length + 1 ≤ cap
  ·by_cases hlt : i < l.length
   ·refine (Any2.slices_Insert_int_shift laysI g 0 l.length cap i vb 0 1 1 (l.map (Value.int .i64)) [.int .i64 x] W hlt (by omega) hroom (by omega) hvg (by simp) rfl hcs (fun j hj => hsp j (by omega)) (fun j _ => hfz j) hvs h1c h1v 3 3 1 cur.size (by simp [World.shape?, hvb]) (by simp [World.shape?, hgb]) (by omega) (hfv _) (hfv _)).mono ?_
    rintro e w' ⟨rfl, rfl⟩
    refine ⟨_, rfl, ?_, ?_⟩
    ·have h1 := Go.rowIs_setCells [Value.int .i64 x] (0 + i) _ _ (Go.rowIs_setCells ((l.map (Value.int .i64)).drop i) (0 + (i + 1)) W.drew _ hrow.drew)
     rw [hlen]
     refine own_of_row h1 hg (by rw [List.length_map, hlen]) hroom hcap (fun j v h => ?_)
     have hj : j < l.length + 1 := by have := (List.getElem?_eq_some_iff.1 h).1; rwa [List.length_map, hlen] at this
     rw [putAt_get l i x hi] at h
     simp only [List.length_singleton, List.length_drop, List.length_map]
     by_cases h2 : j < i
     ·rw [if_pos h2] at h
      rw [if_neg (by omega), if_neg (by omega), hgc j v h]; rfl
     ·rw [if_neg h2] at h
      by_cases h3 : j = i
      ·subst h3
       rw [if_pos rfl] at h
       rw [if_pos (by omega), show j - (0 + j) = 0 by omega]
       simpa using h
      ·rw [if_neg h3] at h
       rw [if_neg (by omega), if_pos (by omega), List.getElem?_drop, show i + (j - (0 + (i + 1))) = j - 1 by omega, h]; rfl
    ·exact Go.below_setCells hg _ _ _ (Go.below_setCells hg _ _ _ hb.drew)
   ·obtain rfl : i = l.length := by omega
    refine (Any2.slices_Insert_int_end_room laysI g 0 l.length cap vb 0 1 1 [.int .i64 x] W (by omega) hroom (by omega) rfl (fun j hj => by have := hsp (l.length + j) (by omega); rwa [← Nat.add_assoc] at this) (fun j _ => by have := hfz (l.length + j); rwa [← Nat.add_assoc] at this) hvs h1v).mono ?_
    rintro e w' ⟨rfl, rfl⟩
    refine ⟨_, rfl, ?_, ?_⟩
    ·have h1 := Go.rowIs_setCells [Value.int .i64 x] (0 + l.length) _ _ hrow
     rw [hlen]
     refine own_of_row h1 hg (by rw [List.length_map, hlen]) hroom hcap (fun j v h => ?_)
     have hj : j < l.length + 1 := by have := (List.getElem?_eq_some_iff.1 h).1; rwa [List.length_map, hlen] at this
     rw [putAt_get l _ x hi] at h
     simp only [List.length_singleton]
     by_cases h2 : j < l.length
     ·rw [if_pos h2] at h
      rw [if_neg (by omega), hgc j v h]; rfl
     ·obtain rfl : j = l.length := by omega
      rw [if_neg h2, if_pos rfl] at h
      rw [if_pos (by omega), show l.length - (0 + l.length) = 0 by omega]
      simpa using h
    ·exact Go.below_setCells hg _ _ _ hb
  ·obtain rfl : cap = l.length := by omega
   by_cases hlt : i < l.length
   ·refine (Any2.slices_Insert_int_grow laysI g 0 l.length l.length i vb 0 1 1 (l.map (Value.int .i64)) [.int .i64 x] W hlt (by omega) (Nat.le_refl _) (by omega) (by omega) (by simp) rfl hcs hvs h1c h1v).mono ?_
    rintro e w' ⟨rfl, rfl⟩
    refine ⟨_, rfl, ?_, ?_⟩
    ·have hge := grownCap_ge W (l.length + 1) l.length (renI.t 3)
     have h0 : World.rowIs _ W.heap.size 3 _ _ := World.rowIs_alloc W (((l.map (Value.int .i64)).take i).toArray ++ Builtin.zeroCells (Value.int .i64 0).cells (l.length + 1 - i) ++ Builtin.zeroCells (Value.int .i64 0).cells (grownCap W (l.length + 1) l.length (renI.t 3) - (l.length + 1))) 3 (fun j => (((l.map (Value.int .i64)).take i).toArray ++ Builtin.zeroCells (Value.int .i64 0).cells (l.length + 1 - i) ++ Builtin.zeroCells (Value.int .i64 0).cells (grownCap W (l.length + 1) l.length (renI.t 3) - (l.length + 1)))[j]?.getD default) (fun j hj => by show _ = some (Option.getD _ default); rw [Array.getElem?_eq_getElem hj]; rfl)
     have h1 := Go.rowIs_setCells ((l.map (Value.int .i64)).drop i) (i + 1) _ _ (Go.rowIs_setCells [Value.int .i64 x] i _ _ h0.drew).drew
     rw [hlen]
     refine own_of_row (cap := grownCap W (l.length + 1) l.length (renI.t 3)) (by
      have es : (((l.map (Value.int .i64)).take i).toArray ++ Builtin.zeroCells (Value.int .i64 0).cells (l.length + 1 - i) ++ Builtin.zeroCells (Value.int .i64 0).cells (grownCap W (l.length + 1) l.length (renI.t 3) - (l.length + 1))).size = grownCap W (l.length + 1) l.length (renI.t 3) := by
       simp [size_zeroCells, Value.cells]; omega
      rw [es] at h1
      exact h1) hbase (by rw [List.length_map, hlen]) hge (grownCap_le_maxLen _ _ _ _ (by omega)) (fun j v h => ?_)
     have hj : j < l.length + 1 := by have := (List.getElem?_eq_some_iff.1 h).1; rwa [List.length_map, hlen] at this
     rw [putAt_get l i x hi] at h
     simp only [List.length_singleton, List.length_drop, List.length_map]
     by_cases h2 : j < i
     ·rw [if_pos h2] at h
      have e : (((l.map (Value.int .i64)).take i).toArray ++ Builtin.zeroCells (Value.int .i64 0).cells (l.length + 1 - i) ++ Builtin.zeroCells (Value.int .i64 0).cells (grownCap W (l.length + 1) l.length (renI.t 3) - (l.length + 1)))[j]? = some v := by
       rw [Array.getElem?_append_left (by simp; omega), Array.getElem?_append_left (by simp; omega), List.getElem?_toArray, List.getElem?_take_of_lt h2, h]
      rw [if_neg (by omega), if_neg (by omega), e]; rfl
     ·rw [if_neg h2] at h
      by_cases h3 : j = i
      ·subst h3
       rw [if_pos rfl] at h
       rw [if_neg (by omega), if_pos (by omega), Nat.sub_self]
       simpa using h
      ·rw [if_neg h3] at h
       rw [if_pos (by omega), List.getElem?_drop, show i + (j - (i + 1)) = j - 1 by omega, h]; rfl
    ·exact Go.below_setCells hbase _ _ _ ((Go.below_setCells hbase _ _ _ (hb.alloc hbase _).drew).drew)
   ·obtain rfl : i = l.length := by omega
    refine (Any2.slices_Insert_int_end_grow laysI (some ⟨g, 0, none⟩) l.length l.length vb 0 1 1 (l.map (Value.int .i64)) [.int .i64 x] W (by omega) (Nat.le_refl _) (by omega) (by omega) (by simp) rfl (fun h => by cases h) (fun a ha j v h => by cases ha; have h2 := hcs j v h; rw [Nat.zero_add] at h2; by_cases hj : j = 0; (subst hj; simpa [Addr.add] using h2); (simpa [Addr.add, hj] using h2)) hvs h1v).mono ?_
    rintro e w' ⟨rfl, rfl⟩
    refine ⟨_, rfl, ?_, ?_⟩
    ·have hge := grownCap_ge W (l.length + 1) l.length (renI.t 3)
     rw [hlen]
     refine own_of_cells (Go.Deep.blk_alloc_new _ _) hbase (by rw [List.length_map, hlen]) hge (grownCap_le_maxLen _ _ _ _ (by omega)) ?_ ?_
     ·simp [size_zeroCells, Value.cells]; omega
     ·intro j v h
      have hj : j < l.length + 1 := by have := (List.getElem?_eq_some_iff.1 h).1; rwa [List.length_map, hlen] at this
      rw [putAt_get l _ x hi] at h
      rw [Array.getElem?_append_left (by simp; omega), List.getElem?_toArray]
      by_cases h2 : j < l.length
      ·rw [if_pos h2] at h
       rw [List.getElem?_append_left (by simp; omega), h]
      ·obtain rfl : j = l.length := by omega
       rw [if_neg h2, if_pos rfl] at h
       rw [List.getElem?_append_right (by simp)]
       simpa using h
    ·exact (hb.drew).alloc hbase _
/-! ### rising numbers -/
/-- Numbers that rise. -/
def upB : List Int → Bool
 | [] => true
 | x :: t => t.all (fun y => decide (x < y)) && upB t
theorem upB_pairwise : ∀ {l : List Int}, upB l = true → l.Pairwise (· < ·)
 | [], _ => List.Pairwise.nil
 | x :: t, h => by
  unfold upB at h
  rw [Bool.and_eq_true, List.all_eq_true] at h
  exact List.Pairwise.cons (fun y hy => of_decide_eq_true (h.1 y hy)) (upB_pairwise h.2)
/-- Where a number is, or would be. -/
def ixOf (l : List Int) (x : Int) : Nat := l.countP (· < x)
theorem ixOf_le (l : List Int) (x : Int) : ixOf l x ≤ l.length := List.countP_le_length
end Go.Proofs.Ytehjmmedghcndaa.PG
