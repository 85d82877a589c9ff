import Derived.Test.YthembklejaabiaaMgA
import Derived.Test.YthembklejaabiaaPGx0
import Derived.Shelf.Slices.Delete
import Derived.Lib.OwnBridge
import Derived.Test.YthembklejaabiaaMgB
/-! Contracts of the document's answer: where a block lies; which whole number a part is. -/
namespace Go.Proofs.Ythembklejaabiaa.PG
open Go.RowKit Go.Proofs.Ythembklejaabiaa.Fl Go.Proofs.Ythembklejaabiaa.PL Go.Proofs.YthembklejaabiaaW.PrintWords Go.Proofs.YthembklejaabiaaW.PrintLast Go.Proofs.YthembklejaabiaaW.PrintMore
attribute [local go_sem] Oper.semAt_some
theorem F_inj {a b : Nat} (ha : a < 1100) (hb : b < 1100) (h : F (a : Int) = F (b : Int)) : a = b := by
  have h1 := order_is (is_F (a : Int) (by omega)) (is_F (b : Int) (by omega))
  have h2 := order_is (is_F (b : Int) (by omega)) (is_F (b : Int) (by omega))
  rw [h, h2] at h1
  have h3 : compare (b : Int) (b : Int) = .eq := Int.compare_eq_eq.2 rfl
  rw [h3] at h1
  have h4 := Int.compare_eq_eq.1 (Option.some.inj h1).symm
  omega
/-- Which number below k a float is. -/
def unF (b k : Nat) : Option Nat := (List.range k).find? (fun n => F (n : Int) == b)
theorem unF_some {b k n : Nat} (h : unF b k = some n) : F (n : Int) = b ∧ n < k := by
  have h1 := List.find?_some h
  have h2 := List.mem_of_find?_eq_some h
  exact ⟨by simpa using h1, by simpa using h2⟩
theorem unF_F (a k : Nat) (h : a < k) (hk : k ≤ 1100) : unF (F (a : Int)) k = some a := by
  cases hf : unF (F (a : Int)) k with
  | none =>
    exfalso
    have := List.find?_eq_none.1 hf a (by simpa using h)
    simp at this
  | some n =>
    obtain ⟨h1, h2⟩ := unF_some hf
    rw [F_inj (by omega) (by omega) h1]
def selvedgeref01_whole.f (a0 : Nat) : Option (Int × Bool) := (unF a0 1024).bind fun n => some ((n : Int), true)
theorem near_is : Is 13920626448202203136 (-1048576) := isB_is (by decide +kernel)
theorem order_near (n : Int) (h : -1100 < n ∧ n < 1100) : FloatKind.f64.format.order (F n) 13920626448202203136 = some .gt := by
  rw [← Int.compare_eq_gt.2 (show n > -1048576 by omega)]; exact order_is (is_F n h) near_is
theorem order_far' (n : Int) (h : -1100 < n ∧ n < 1100) : FloatKind.f64.format.order (F n) 4697254411347427328 = some .lt := by
  rw [← Int.compare_eq_lt.2 (show n < 1048576 by omega)]; exact order_is (is_F n h) far_is
theorem order_self' (n : Int) (h : -1100 < n ∧ n < 1100) : FloatKind.f64.format.order (F n) (F n) = some .eq := by
  rw [← Int.compare_eq_eq.2 (rfl : n = n)]; exact order_is (is_F n h) (is_F n h)
theorem whole_calls (n : Nat) (hn : n < 1024) (w : World) : Calls Try.prog 55 #[.float .f64 (F (n : Int))] w fun e w' => e = .returned (.tuple #[.int .i64 (n : Int), .bool true]) ∧ w' = w := by
  have o1 := order_near (n : Int) (by omega)
  have o2 := order_far' (n : Int) (by omega)
  have o3 := order_self' (n : Int) (by omega)
  have hti : floatToIntVal .f64 (F (n : Int)) .i64 = some (n : Int) := toInt_is _ (by omega)
  have hcv : ∀ W, (convert 57 3 (.float .f64 (F (n : Int)))).run Try.prog W = .ok (.int .i64 (n : Int)) W := fun W => run_convert_float_int W 57 3 .f64 .i64 _ _ (by rw [Try.underlying57]; rfl) Try.underlying3 hti
  have hF : floatOfInt .f64 (n : Int) = F (n : Int) := F_eq _
  go_enter Try.func55, Try.ntmps55
  go_wp2_with (simp only [o1, o2, o3, hcv, hF])
  go_ret2
  exact ⟨rfl, rfl⟩
theorem selvedgeref01_whole.calls (a0 : Nat) (r1 : Int) (r2 : Bool) (w : World) (h : selvedgeref01_whole.f a0 = some (r1, r2)) :
    Calls Try.prog 55 #[.float .f64 a0] w fun e w' => e = .returned (.tuple #[.int .i64 r1, .bool r2]) ∧ Drawn0 w w' := by
  obtain ⟨n, hn, hr⟩ := Option.bind_eq_some_iff.mp h
  obtain ⟨rfl, hlt⟩ := unF_some hn
  obtain ⟨rfl, rfl⟩ := Prod.mk.inj (Option.some.inj hr)
  exact (whole_calls n hlt w).mono fun _ _ ⟨h1, h2⟩ => ⟨h1, ⟨0, h2⟩⟩
def place_may.f (a0 : Int) (l1 : List Int) : Option Bool := if l1.length < 140737488355328 then some (mayB a0 l1) else none
theorem place_may.calls (a0 : Int) (A1 : Option Addr) (c1 : Nat) (l1 : List Int) (r : Bool) (w : World) (hr1 : Kd.C (Kd.int .i64) w A1 l1.length l1) (hc1 : l1.length ≤ c1) (h : place_may.f a0 l1 = some r) :
    Calls Try.prog 26 #[.int .i64 a0, .slice A1 l1.length c1] w fun e w' => e = .returned (.bool r) ∧ Drawn0 w w' := by
  unfold place_may.f at h
  by_cases hl : l1.length < 140737488355328
  · rw [if_pos hl] at h
    obtain rfl := Option.some.inj h
    exact (may_calls a0 A1 c1 l1 w hr1 hl).mono fun _ _ ⟨h1, h2⟩ => ⟨h1, ⟨0, h2⟩⟩
  · rw [if_neg hl] at h
    exact absurd h (by simp)
def place_At.f (a0 a1 : Int) : Option ((Nat × Nat) × Int) := some (((atV a0 a1).1, (atV a0 a1).2.1), (atV a0 a1).2.2)
theorem place_At.calls (a0 a1 : Int) (r1 : Nat × Nat) (r2 : Int) (w : World) (h : place_At.f a0 a1 = some (r1, r2)) :
    Calls Try.prog 10 #[.int .i64 a0, .int .i64 a1] w fun e w' => e = .returned (.tuple #[.complex .f64 r1.1 r1.2, .int .i64 r2]) ∧ Below w.heap.size w w' := by
  obtain ⟨rfl, rfl⟩ := Prod.mk.inj (Option.some.inj h)
  exact At_calls a0 a1 w
def place_Way.f (x y : Nat × Nat) : Option Int := (unF x.1 1024).bind fun a => (unF x.2 64).bind fun b => (unF y.1 1024).bind fun c => (unF y.2 64).bind fun d => some (apartN a b c d : Int)
theorem place_Way.calls (x y : Nat × Nat) (r : Int) (w : World) (h : place_Way.f x y = some r) :
    Calls Try.prog 12 #[.complex .f64 x.1 x.2, .complex .f64 y.1 y.2] w fun e w' => e = .returned (.int .i64 r) ∧ Drawn0 w w' := by
  obtain ⟨a, ha, h⟩ := Option.bind_eq_some_iff.mp h
  obtain ⟨b, hb, h⟩ := Option.bind_eq_some_iff.mp h
  obtain ⟨c, hc, h⟩ := Option.bind_eq_some_iff.mp h
  obtain ⟨d, hd, h⟩ := Option.bind_eq_some_iff.mp h
  obtain rfl := Option.some.inj h
  obtain ⟨e1, la⟩ := unF_some ha
  obtain ⟨e2, lb⟩ := unF_some hb
  obtain ⟨e3, lc⟩ := unF_some hc
  obtain ⟨e4, ld⟩ := unF_some hd
  rw [← e1, ← e2, ← e3, ← e4]
  exact (Way_calls a b c d la lb lc ld w).mono fun _ _ ⟨h1, h2⟩ => ⟨h1, ⟨0, h2⟩⟩
def selvedgelaw01_live.f : Option Bool := some true
theorem selvedgelaw01_live.calls (r : Bool) (w : World) (h : selvedgelaw01_live.f = some r) :
    Calls Try.prog 11 #[] w fun e w' => e = .returned (.bool r) ∧ Below w.heap.size w w' := by
  obtain rfl := Option.some.inj h
  exact live_calls w
end Go.Proofs.Ythembklejaabiaa.PG
/-! The contract of slices.Delete over ints. -/
namespace Go.Proofs.Ythembklejaabiaa.PG
open Go.RowKit Go.Proofs.YthembklejaabiaaW.PrintWords Go.Proofs.YthembklejaabiaaW.PrintLast Go.Proofs.YthembklejaabiaaW.PrintMore
open Go.Shelf Go.Sort
def renD : Ren := ⟨fun x => if x = 23 then 35 else x, fun x => if x = 22 then 39 else x, fun x => x⟩
theorem laysD : Lays2.n23 Try.prog renD where
  mixed := by kernel_rfl
  f23 := by kernel_rfl
  t0 := by kernel_rfl
  a0 := fun w => by kernel_rfl
  z0 := fun w => by kernel_rfl
  v0 := fun w => by kernel_rfl
  t3 := by kernel_rfl
  a3 := fun w => by kernel_rfl
  z3 := fun w => by kernel_rfl
  v3 := fun w => by kernel_rfl
  t4 := by kernel_rfl
  a4 := fun w => by kernel_rfl
  z4 := fun w => by kernel_rfl
  v4 := fun w => by kernel_rfl
  t22 := by kernel_rfl
  a22 := fun w => by kernel_rfl
  z22 := fun w => by kernel_rfl
  v22 := fun w => by kernel_rfl
  i3 := by kernel_rfl
def slices_Delete_int_int.f (l0 : List Int) (a1 a2 : Int) : Option (List Int) := if 0 ≤ a1 ∧ a1 ≤ a2 ∧ a2 ≤ (l0.length : Int) ∧ 0 < l0.length then some (l0.take a1.toNat ++ l0.drop a2.toNat) else none
theorem slices_Delete_int_int.calls (P0_ : Nat → Prop) (v0 : Value) (l0 : List Int) (a1 a2 : Int) (r : List Int) (w0 w : World) (hB : Below w0.heap.size w0 w) (ho0 : Kd.R (Kd.int .i64) 3 w w0.heap.size P0_ v0 l0) (h : slices_Delete_int_int.f l0 a1 a2 = some r) :
    Calls Try.prog 35 #[v0, .int .i64 a1, .int .i64 a2] w fun e w' => ∃ v0_ : Value, e = .returned v0_ ∧ Kd.R (Kd.int .i64) 3 w' w0.heap.size (fun k_ => P0_ k_ ∨ w.heap.size ≤ k_) v0_ r ∧ Below w0.heap.size w0 w' ∧ Kept w w' P0_ := by
  unfold slices_Delete_int_int.f at h
  by_cases hc : 0 ≤ a1 ∧ a1 ≤ a2 ∧ a2 ≤ (l0.length : Int) ∧ 0 < l0.length
  · rw [if_pos hc] at h
    obtain rfl := Option.some.inj h
    obtain ⟨h1, h2, h3, h4⟩ := hc
    obtain ⟨i, rfl⟩ := Int.eq_ofNat_of_zero_le h1
    obtain ⟨j, rfl⟩ := Int.eq_ofNat_of_zero_le (show 0 ≤ a2 by omega)
    simp only [Int.toNat_natCast]
    have ho := Kd.own_of_R ho0
    have hv : v0 ≠ .slice none 0 0 := by
      rintro rfl
      rcases ho.2 with ⟨_, h0⟩ | ⟨g, cap, cur, e, _⟩
      · omega
      · cases e
    obtain ⟨g, cap, rfl, hg1, hg2, hcap, hm, -, hH⟩ := Go.Lib.holds_of_ownsRow (enc := Value.int .i64) ho hv
    have hP : P0_ g := ho0.1 g (by simp [Value.ownBlock])
    refine (Any.slices_Delete_int laysD g 0 cap i j l0 w hH hcap (by simpa [maxLen] using hm) (by omega) (by omega)).mono ?_
    rintro e w' ⟨rfl, q, rfl⟩
    have hlen : (l0.take i ++ l0.drop j ++ List.replicate (j - i) 0).length = l0.length := by simp; omega
    have hr := Go.Lib.ownsRow_putRow (q := q) (k := l0.length - (j - i)) ho hlen (by omega)
    have ht : (l0.take i ++ l0.drop j ++ List.replicate (j - i) 0).take (l0.length - (j - i)) = l0.take i ++ l0.drop j := by
      rw [List.take_append_of_le_length (by simp; omega), List.take_of_length_le (by simp; omega)]
    rw [ht] at hr
    have hl2 : (l0.take i ++ l0.drop j).length = l0.length - (j - i) := by simp; omega
    refine ⟨_, rfl, Kd.R_of_own (by rw [hl2]; exact hr) (fun k hk => .inl ?_), Go.Lib.below_putRow hB hg1, ?_⟩
    · have : g = k := by simpa [Value.ownBlock] using hk
      exact this ▸ hP
    · refine ⟨by simp [putRow, mapBlock, Sort.ahead], fun k _ hk2 => ?_⟩
      have : g ≠ k := fun e => hk2 (e ▸ hP)
      simp [putRow, mapBlock, Sort.ahead, Array.getElem?_modify, this]
  · rw [if_neg hc] at h
    exact absurd h (by simp)
end Go.Proofs.Ythembklejaabiaa.PG
/-! The functions that are not printed: their contracts under the names that the print asks for. -/
namespace Go.Proofs.Ythembklejaabiaa.PG
open Go.RowKit Go.Proofs.YthembklejaabiaaW.PrintWords Go.Proofs.YthembklejaabiaaW.PrintLast Go.Proofs.YthembklejaabiaaW.PrintMore
def place_Route.f (a0 : Int) (l1 : List Int) (a2 : Int) : Option (Int × Int) := PL.place_Route.f a0 l1 a2
theorem place_Route.calls (a0 : Int) (A1 : Option Addr) (c1 : Nat) (l1 : List Int) (a2 : Int) (r1 : Int) (r2 : Int) (w : World) (hr1 : Kd.C (Kd.int .i64) w A1 l1.length l1) (hc1 : l1.length ≤ c1) (h : place_Route.f a0 l1 a2 = some (r1, r2)) :
    Calls Try.prog 16 #[.int .i64 a0, .slice A1 l1.length c1, .int .i64 a2] w fun e w' => e = .returned (.tuple #[.int .i64 r1, .int .i64 r2]) ∧ Below w.heap.size w w' := PL.place_Route.calls a0 A1 c1 l1 a2 r1 r2 w hr1 hc1 h
def place_Next.f (a0 : Int) (l1 : List Int) (a2 : Int) : Option (Int × Bool) := PL.place_Next.f a0 l1 a2
theorem place_Next.calls (a0 : Int) (A1 : Option Addr) (c1 : Nat) (l1 : List Int) (a2 : Int) (r1 : Int) (r2 : Bool) (w : World) (hr1 : Kd.C (Kd.int .i64) w A1 l1.length l1) (hc1 : l1.length ≤ c1) (h : place_Next.f a0 l1 a2 = some (r1, r2)) :
    Calls Try.prog 18 #[.int .i64 a0, .slice A1 l1.length c1, .int .i64 a2] w fun e w' => e = .returned (.tuple #[.int .i64 r1, .bool r2]) ∧ Below w.heap.size w w' := PL.place_Next.calls a0 A1 c1 l1 a2 r1 r2 w hr1 hc1 h
def slices_Clone_int_int.f (l0 : List Int) : Option (List Int) := PL.slices_Clone___int_int.f l0
theorem slices_Clone_int_int.calls (A0 : Option Addr) (c0 : Nat) (l0 : List Int) (r : List Int) (w : World) (hr0 : Kd.C (Kd.int .i64) w A0 l0.length l0) (hc0 : l0.length ≤ c0) (h : slices_Clone_int_int.f l0 = some r) :
    Calls Try.prog 34 #[.slice A0 l0.length c0] w fun e w' => ∃ v0_ : Value, e = .returned (v0_) ∧ Kd.R (Kd.int .i64) 3 w' w.heap.size (fun _ => True) v0_ r ∧ Below w.heap.size w w' := PL.slices_Clone___int_int.calls A0 c0 l0 r w hr0 hc0 h
section
variable {P : Program} {ops : Array Oper} {Q : Exit → Act → World → Prop} {o : Oper} {rest : List Oper} {a : Act} {α : Type}
/-- make([]T, 0, n). -/
theorem Kd.R_make0 (d : Kd α) {w0 W : World} (base e : Nat) (hgd : o.guard = none) {N : Tmp} (hd : o.dst = some N) (t : TypeId) (x y : Operand) (ho : o.op = .makeSlice t x y) (n : Int) (hx : a.eval x = .int .i64 0) (hy : a.eval y = .int .i64 n)
    (ht : P.underlying t = some (.slice e)) (z : Value) (bytes : Nat) (hinfo : (P.info? e).map (fun i => (i.zero, i.size, i.bytes)) = some (some z, d.sz, bytes)) (hz : z.cells.size = d.sz) (hs0 : 0 < d.sz) (hb0 : 0 < bytes)
    (z0 : α) {ok okp : Nat → Prop} (hzero : d.M W base okp z0 z.cells.toList) (hok : ∀ k, okp k → ok k) (hfresh : ok W.heap.size) (h0 : 0 ≤ n) (hl : n.toNat * bytes ≤ 281474976710656) (HB : Below base w0 W) (hbase : base ≤ W.heap.size)
    (h : ∀ v1 w1, d.R e w1 base ok v1 (List.replicate 0 z0) → Below base w0 w1 → W.grownBy w1 none → (∃ b, v1.ownBlock = some b ∧ W.heap.size ≤ b) → wpList P ops Q rest (a.put o.dst v1) w1) : wpList P ops Q (o :: rest) a W := by
  obtain ⟨m, rfl⟩ := Int.eq_ofNat_of_zero_le h0
  simp only [Int.toNat_natCast] at hl h
  obtain ⟨i0, hi, hzz⟩ := Option.map_eq_some_iff.1 hinfo
  simp only [Prod.mk.injEq] at hzz
  obtain ⟨hz0, hz1, hz2⟩ := hzz
  have hm : m ≤ 281474976710656 := Nat.le_trans (Nat.le_mul_of_pos_right _ hb0) hl
  have hr := run_make (P := P) W t e i0 z ht hi hz0 .i64 .i64 0 (m : Int) (by omega) (by omega)
    (by
      have h3 : ((i0.bytes * m : Nat) : Int) ≤ 281474976710656 := by rw [hz2, Nat.mul_comm]; omega
      rwa [Int.natCast_mul] at h3) (by omega)
  simp only [Int.toNat_zero, Int.toNat_natCast] at hr
  rw [hz1] at hr
  refine Kd.event_run (v := .slice (some ⟨W.heap.size, 0, none⟩) 0 m) (w1 := W.alloc (.cells (madeCells z.cells (m * d.sz)) e)) hgd (by simp [execOp, ho, hx, hy, hr]) (h _ _ ⟨fun k hk => ?_, [], ?_, Reps.none _ _⟩ (HB.alloc hbase _) (World.grownBy_alloc W _ none) ⟨W.heap.size, by simp [Value.ownBlock], Nat.le_refl _⟩)
  · have : W.heap.size = k := by simpa [Value.ownBlock] using hk
    subst this
    exact hfresh
  · simpa using World.ownsRow_made (base := base) (e := e) (size := d.sz) W (madeCells z.cells (m * d.sz)) m hbase (by simp [maxLen]; omega) (by simp [size_madeCells])
end
end Go.Proofs.Ythembklejaabiaa.PG
