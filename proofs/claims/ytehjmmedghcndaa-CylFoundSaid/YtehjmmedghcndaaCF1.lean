import Derived.Test.YtehjmmedghcndaaCF0
import Derived.Sort.CutIn
import Derived.BigRegionIn
import Derived.Test.YtehjmmedghcndaaLT
/-! The groups in which a file's inode is looked for: the iterator. -/
namespace Go.Proofs.Ytehjmmedghcndaa.PG
open Go.RowKit Go.Proofs.YtehjmmedghcndaaW.PrintWords Go.Proofs.YtehjmmedghcndaaW.PrintLast Go.Proofs.YtehjmmedghcndaaW.PrintMore
open Go.Shelf
attribute [local go_sem] Oper.semAt_some
/-- Steps from one on. -/
def hashR (g n s : Nat) : List Int := (([0, 1, 3, 7, 15] : List Nat).filter (fun t => decide (s ≤ t) && decide (t ≤ n))).map (fun t => (((g + t) % n : Nat) : Int))
/-- The groups, in the order in which they are looked at. -/
def hashL (g n : Nat) : List Int := hashR g n 0 ++ roundL (g + 1) n
def stepsL : List Nat := [0, 1, 3, 7, 15, 31]
theorem hashR_step (g n s : Nat) (hs : s ∈ stepsL) (h1 : s ≤ 15) (h2 : s ≤ n) : hashR g n s = (((g + s) % n : Nat) : Int) :: hashR g n (2 * s + 1) ∧ 2 * s + 1 ∈ stepsL := by
 unfold stepsL at hs ⊢
 simp only [List.mem_cons, List.not_mem_nil, or_false] at hs
 rcases hs with rfl | rfl | rfl | rfl | rfl | rfl
 ·refine ⟨?_, by decide⟩
  unfold hashR
  simp [List.filter_cons]
 ·refine ⟨?_, by decide⟩
  unfold hashR
  simp [List.filter_cons, h2]
 ·refine ⟨?_, by decide⟩
  unfold hashR
  simp [List.filter_cons, h2]
 ·refine ⟨?_, by decide⟩
  unfold hashR
  simp [List.filter_cons, h2]
 ·refine ⟨?_, by decide⟩
  unfold hashR
  simp [List.filter_cons, h2]
 ·omega
theorem hashR_stop (g n s : Nat) (h : 15 < s ∨ n < s) : hashR g n s = [] := by
 unfold hashR
 rw [List.map_eq_nil_iff, List.filter_eq_nil_iff]
 intro t ht
 simp only [List.mem_cons, List.not_mem_nil, or_false] at ht
 simp only [Bool.and_eq_true, decide_eq_true_eq]
 omega
/-- What a yield leaves. -/
def Yld {α : Type} (l B : Nat) (J Jx : List α → World → Prop) (xs : List α) (W : World) (b : Bool) (W' : World) : Prop :=
 (b = true ∧ J xs W' ∧ KeepsBut l W W') ∨ (b = false ∧ Jx xs W' ∧ KeepsFrom B W W')
theorem yld_of {α : Type} {l B k : Nat} {J Jx : List α → World → Prop} {args : Array Value} {xs : List α} {W : World} (h : YieldAt Fence.wide k Try.prog l args W fun e W' =>
   (e = .returned (.bool true) ∧ J xs W' ∧ KeepsBut l W W') ∨ (e = .returned (.bool false) ∧ Jx xs W' ∧ KeepsFrom B W W')) :
  YieldAt Fence.wide k Try.prog l args W fun e W' => ∃ b, e = .returned (.bool b) ∧ Yld l B J Jx xs W b W' := h.mono fun e W' hh => by
 rcases hh with ⟨e1, e2, e3⟩ | ⟨e1, e2, e3⟩
 ·exact ⟨true, e1, .inl ⟨rfl, e2, e3⟩⟩
 ·exact ⟨false, e1, .inr ⟨rfl, e2, e3⟩⟩
section
variable {P : Program} {ops : Array Oper} {Q : Exit → Act → World → Prop} {n i : Nat} {o : Oper} {a : Act} {w : World} {K : Act → World → Prop}
theorem opv_ {v : Value} {a' : Act} (ho : ops[i]? = some o) (hw : Region.wanted o (yielded ops a.tmps) = true) {N : Tmp} (hN : o.dst = some N) (hrun : (execOp a.eval o).run P w = .ok (.value v) w) (ha : a.put (some N) v = a') (h : K a' w) : wpOpIn Fence.wide n P ops Q i K a w := by
 unfold wpOpIn
 rw [ho]
 show if Region.wanted o (yielded ops a.tmps) = true then _ else _
 rw [if_pos hw]
 refine ⟨fun _ _ => trivial, ?_⟩
 rw [show (Fence.wide).round = none from rfl, Oper.semAt_none, hrun]
 subst ha
 rw [← hN] at h
 exact h
theorem opr_ {l : Nat} {args : Array Value} {v : Bool → Value} {R : Bool → World → Prop} (ho : ops[i]? = some o) (hw : Region.wanted o (yielded ops a.tmps) = true) {N : Tmp} (hN : o.dst = some N) (hrun : (execOp a.eval o).run P w = (Instr.yield l args).run P w) (hY : YieldAt Fence.wide (n - 1) P l args w fun e W' => ∃ b, e = .returned (v b) ∧ R b W')
  (h : ∀ b W', R b W' → K (a.put (some N) (v b)) W') : wpOpIn Fence.wide n P ops Q i K a w := by
 unfold wpOpIn
 rw [ho]
 show if Region.wanted o (yielded ops a.tmps) = true then _ else _
 rw [if_pos hw]
 refine ⟨fun _ _ => trivial, ?_⟩
 obtain ⟨fn, tmps, assign, body, hy, hR⟩ := hY
 rw [show (Fence.wide).round = none from rfl, Oper.semAt_none, hrun, hy, Oper.uponIn_round]
 refine ⟨fun h => (by cases h), hR.mono ?_⟩
 rintro e W' ⟨b, rfl, hr⟩
 have := h b W' hr
 rw [← hN] at this
 exact this
end
theorem hash_o0 : (opsOf Try.f80 4)[0]? = some ({ dst := some 16, op := Op.load 88 (Operand.tmp 3), type := 88, pos := "cyl.go:307", after := #[], guard := none } : Oper) := by kernel_rfl
theorem hash_o1 : (opsOf Try.f80 4)[1]? = some ({ dst := some 17, op := Op.load 3 (Operand.tmp 2), type := 3, pos := "cyl.go:307", after := #[], guard := none } : Oper) := by kernel_rfl
theorem hash_o2 : (opsOf Try.f80 4)[2]? = some ({ dst := some 18, op := Op.move (Operand.tmp 4), type := 3, pos := "cyl.go:307", after := #[], guard := none } : Oper) := by kernel_rfl
theorem hash_o3 : (opsOf Try.f80 4)[3]? = some ({ dst := some 19, op := Op.binOp BinOp.add 3 (Operand.tmp 17) (Operand.tmp 18) 3, type := 3, pos := "cyl.go:307", after := #[{ on := 1, ground := Ground.data }, { on := 2, ground := Ground.data }], guard := none } : Oper) := by kernel_rfl
theorem hash_o4 : (opsOf Try.f80 4)[4]? = some ({ dst := some 20, op := Op.load 3 (Operand.tmp 1), type := 3, pos := "cyl.go:307", after := #[], guard := none } : Oper) := by kernel_rfl
theorem hash_o5 : (opsOf Try.f80 4)[5]? = some ({ dst := some 21, op := Op.binOp BinOp.rem 3 (Operand.tmp 19) (Operand.tmp 20) 3, type := 3, pos := "cyl.go:307", after := #[{ on := 3, ground := Ground.data }, { on := 4, ground := Ground.data }], guard := none } : Oper) := by kernel_rfl
theorem hash_o6 : (opsOf Try.f80 4)[6]? = some ({ dst := some 22, op := Op.call { callee := Callee.value (Operand.tmp 16), args := #[Operand.tmp 21], argTypes := #[3] }, type := 4, pos := "cyl.go:307", after := #[{ on := 0, ground := Ground.data }, { on := 5, ground := Ground.data }], guard := none } : Oper) := by kernel_rfl
theorem hash_o7 : (opsOf Try.f80 4)[7]? = some ({ dst := some 23, op := Op.unOp UnOp.not 4 (Operand.tmp 22), type := 4, pos := "cyl.go:307", after := #[{ on := 6, ground := Ground.data }], guard := none } : Oper) := by kernel_rfl
set_option maxHeartbeats 4000000 in
set_option maxRecDepth 100000 in
theorem hash_r4 {n l B Bn Bg sy s g m : Nat} {x : Int} {J Jx : List (Rng m) → World → Prop} {xs : List (Rng m)} {Q : Exit → Act → World → Prop} (t0 t5 t6 t7 t8 t9 t10 t11 t12 t13 t14 t15 t16 t17 t18 t19 t20 t21 t22 t23 t24 t25 t26 t27 t28 t29 t30 t31 t32 : Value) (W0 : World)
  (cy : W0.cell? ⟨sy, 0, none⟩ = some (.func (.yield l) #[] #[])) (cn : W0.cell? ⟨Bn, 0, none⟩ = some (.int .i64 (m : Int))) (cg : W0.cell? ⟨Bg, 0, none⟩ = some (.int .i64 (g : Int)))
  (hne : ((m : Int) == 0) = false) (hne3 : ¬ m = 0) (hwz : IntKind.i64.wrap ((g : Int) + (s : Int)) = (g : Int) + (s : Int)) (em : Int.tmod ((g : Int) + (s : Int)) (m : Int) = x) (hg : g ≤ 1000) (hs : s ≤ 15) (hm : 1 ≤ m) (hm2 : m ≤ 1000) (e2 : ((g : Int) + (s : Int)) % (m : Int) = x)
  (hY : YieldAt Fence.wide (n - 1) Try.prog l #[.int .i64 x] W0.drew fun e W' => ∃ b, e = .returned (.bool b) ∧ Yld l B J Jx xs W0.drew b W')
  (hK : ∀ b W3, Yld l B J Jx xs W0.drew b W3 → Q .normal { tmps := #[t0, .pointer (some ⟨Bn, 0, none⟩), .pointer (some ⟨Bg, 0, none⟩), .pointer (some ⟨sy, 0, none⟩), .int .i64 (s : Int), t5, t6, t7, t8, t9, t10, t11, t12, t13, t14, t15, .func (.yield l) #[] #[], .int .i64 (g : Int), .int .i64 (s : Int), .int .i64 ((g : Int) + (s : Int)), .int .i64 (m : Int), .int .i64 x, .bool b, .bool (!b), t24, t25, t26, t27, t28, t29, t30, t31, t32], defers := [] } W3) : (Code.region 4 (opsOf Try.f80 4) true).wpIn Fence.wide n Try.prog Q { tmps := #[t0, .pointer (some ⟨Bn, 0, none⟩), .pointer (some ⟨Bg, 0, none⟩), .pointer (some ⟨sy, 0, none⟩), .int .i64 (s : Int), t5, t6, t7, t8, t9, t10, t11, t12, t13, t14, t15, t16, t17, t18, t19, t20, t21, t22, t23, t24, t25, t26, t27, t28, t29, t30, t31, t32], defers := [] } W0 := by
 refine wpIn_region_draw fun t => ?_
 simp only [Region.schedule, show Try.prog.follows .mixedOrders = true from by kernel_rfl, Bool.true_or, if_true]
 refine wpAnyIn_sound _ t _ _ _ ?_
 replace cy : W0.drew.cell? ⟨sy, 0, none⟩ = some (.func (.yield l) #[] #[]) := cy
 replace cn : W0.drew.cell? ⟨Bn, 0, none⟩ = some (.int .i64 (m : Int)) := cn
 replace cg : W0.drew.cell? ⟨Bg, 0, none⟩ = some (.int .i64 (g : Int)) := cg
 show wpAnyIn Fence.wide n Try.prog .any (opsOf Try.f80 4) Q 8 #[false, false, false, false, false, false, false, false] { tmps := #[t0, .pointer (some ⟨Bn, 0, none⟩), .pointer (some ⟨Bg, 0, none⟩), .pointer (some ⟨sy, 0, none⟩), .int .i64 (s : Int), t5, t6, t7, t8, t9, t10, t11, t12, t13, t14, t15, t16, t17, t18, t19, t20, t21, t22, t23, t24, t25, t26, t27, t28, t29, t30, t31, t32], defers := [] } W0.drew
 obtain ⟨W, hW⟩ : ∃ W, W0.drew = W := ⟨_, rfl⟩
 rw [hW] at cy cn cg hY hK ⊢
 have HY_ := Aside0.mk hY
 have HK_ := Aside0.mk hK
 clear hW hY hK
 have G_01234567 : Aside0 (∀ b W3, Yld l B J Jx xs W b W3 → wpAnyIn Fence.wide n Try.prog .any (opsOf Try.f80 4) Q 0 #[true, true, true, true, true, true, true, true] { tmps := #[t0, .pointer (some ⟨Bn, 0, none⟩), .pointer (some ⟨Bg, 0, none⟩), .pointer (some ⟨sy, 0, none⟩), .int .i64 (s : Int), t5, t6, t7, t8, t9, t10, t11, t12, t13, t14, t15, .func (.yield l) #[] #[], .int .i64 (g : Int), .int .i64 (s : Int), .int .i64 ((g : Int) + (s : Int)), .int .i64 (m : Int), .int .i64 x, .bool b, .bool (!b), t24, t25, t26, t27, t28, t29, t30, t31, t32], defers := [] } W3) := ⟨fun b W3 hyl => by
  exact ⟨by kernel_rfl, HK_.out b W3 hyl⟩⟩
 have G_0123456 : Aside0 (∀ b W3, Yld l B J Jx xs W b W3 → wpAnyIn Fence.wide n Try.prog .any (opsOf Try.f80 4) Q 1 #[true, true, true, true, true, true, true, false] { tmps := #[t0, .pointer (some ⟨Bn, 0, none⟩), .pointer (some ⟨Bg, 0, none⟩), .pointer (some ⟨sy, 0, none⟩), .int .i64 (s : Int), t5, t6, t7, t8, t9, t10, t11, t12, t13, t14, t15, .func (.yield l) #[] #[], .int .i64 (g : Int), .int .i64 (s : Int), .int .i64 ((g : Int) + (s : Int)), .int .i64 (m : Int), .int .i64 x, .bool b, t23, t24, t25, t26, t27, t28, t29, t30, t31, t32], defers := [] } W3) := ⟨fun b W3 hyl => by
  refine ⟨fun h => (by rw [show Region.ready .any (opsOf Try.f80 4) #[true, true, true, true, true, true, true, false] = [7] from by kernel_rfl] at h; cases h), fun i hi => ?_⟩
  rw [show Region.ready .any (opsOf Try.f80 4) #[true, true, true, true, true, true, true, false] = [7] from by kernel_rfl] at hi
  simp only [List.mem_cons, List.not_mem_nil, or_false] at hi
  obtain rfl := hi
  refine opv_ (v := .bool (!b)) (N := 23) hash_o7 (by rfl) rfl ?_ ?_ (G_01234567.out b W3 hyl)
  ·go_simp
   try rfl
  ·go_simp
   try rfl⟩
 have G_012345 : Aside0 (wpAnyIn Fence.wide n Try.prog .any (opsOf Try.f80 4) Q 2 #[true, true, true, true, true, true, false, false] { tmps := #[t0, .pointer (some ⟨Bn, 0, none⟩), .pointer (some ⟨Bg, 0, none⟩), .pointer (some ⟨sy, 0, none⟩), .int .i64 (s : Int), t5, t6, t7, t8, t9, t10, t11, t12, t13, t14, t15, .func (.yield l) #[] #[], .int .i64 (g : Int), .int .i64 (s : Int), .int .i64 ((g : Int) + (s : Int)), .int .i64 (m : Int), .int .i64 x, t22, t23, t24, t25, t26, t27, t28, t29, t30, t31, t32], defers := [] } W) := ⟨by
  refine ⟨fun h => (by rw [show Region.ready .any (opsOf Try.f80 4) #[true, true, true, true, true, true, false, false] = [6] from by kernel_rfl] at h; cases h), fun i hi => ?_⟩
  rw [show Region.ready .any (opsOf Try.f80 4) #[true, true, true, true, true, true, false, false] = [6] from by kernel_rfl] at hi
  simp only [List.mem_cons, List.not_mem_nil, or_false] at hi
  obtain rfl := hi
  refine opr_ (N := 22) (v := fun b => .bool b) (R := fun b W3 => Yld l B J Jx xs W b W3) hash_o6 (by rfl) rfl ?_ HY_.out (fun b W3 h => ?_)
  ·go_simp
   try rfl
  ·exact G_0123456.out b W3 h⟩
 have G_01234 : Aside0 (wpAnyIn Fence.wide n Try.prog .any (opsOf Try.f80 4) Q 3 #[true, true, true, true, true, false, false, false] { tmps := #[t0, .pointer (some ⟨Bn, 0, none⟩), .pointer (some ⟨Bg, 0, none⟩), .pointer (some ⟨sy, 0, none⟩), .int .i64 (s : Int), t5, t6, t7, t8, t9, t10, t11, t12, t13, t14, t15, .func (.yield l) #[] #[], .int .i64 (g : Int), .int .i64 (s : Int), .int .i64 ((g : Int) + (s : Int)), .int .i64 (m : Int), t21, t22, t23, t24, t25, t26, t27, t28, t29, t30, t31, t32], defers := [] } W) := ⟨by
  refine ⟨fun h => (by rw [show Region.ready .any (opsOf Try.f80 4) #[true, true, true, true, true, false, false, false] = [5] from by kernel_rfl] at h; cases h), fun i hi => ?_⟩
  rw [show Region.ready .any (opsOf Try.f80 4) #[true, true, true, true, true, false, false, false] = [5] from by kernel_rfl] at hi
  simp only [List.mem_cons, List.not_mem_nil, or_false] at hi
  obtain rfl := hi
  refine opv_ (v := .int .i64 x) (N := 21) hash_o5 (by rfl) rfl ?_ ?_ (G_012345.out)
  ·go_simp
   try rfl
  ·go_simp
   try rfl⟩
 have G_12345 : Aside0 (wpAnyIn Fence.wide n Try.prog .any (opsOf Try.f80 4) Q 3 #[false, true, true, true, true, true, false, false] { tmps := #[t0, .pointer (some ⟨Bn, 0, none⟩), .pointer (some ⟨Bg, 0, none⟩), .pointer (some ⟨sy, 0, none⟩), .int .i64 (s : Int), t5, t6, t7, t8, t9, t10, t11, t12, t13, t14, t15, t16, .int .i64 (g : Int), .int .i64 (s : Int), .int .i64 ((g : Int) + (s : Int)), .int .i64 (m : Int), .int .i64 x, t22, t23, t24, t25, t26, t27, t28, t29, t30, t31, t32], defers := [] } W) := ⟨by
  refine ⟨fun h => (by rw [show Region.ready .any (opsOf Try.f80 4) #[false, true, true, true, true, true, false, false] = [0] from by kernel_rfl] at h; cases h), fun i hi => ?_⟩
  rw [show Region.ready .any (opsOf Try.f80 4) #[false, true, true, true, true, true, false, false] = [0] from by kernel_rfl] at hi
  simp only [List.mem_cons, List.not_mem_nil, or_false] at hi
  obtain rfl := hi
  refine opv_ (v := .func (.yield l) #[] #[]) (N := 16) hash_o0 (by rfl) rfl ?_ ?_ (G_012345.out)
  ·go_simp
   try rfl
  ·go_simp
   try rfl⟩
 have G_0123 : Aside0 (wpAnyIn Fence.wide n Try.prog .any (opsOf Try.f80 4) Q 4 #[true, true, true, true, false, false, false, false] { tmps := #[t0, .pointer (some ⟨Bn, 0, none⟩), .pointer (some ⟨Bg, 0, none⟩), .pointer (some ⟨sy, 0, none⟩), .int .i64 (s : Int), t5, t6, t7, t8, t9, t10, t11, t12, t13, t14, t15, .func (.yield l) #[] #[], .int .i64 (g : Int), .int .i64 (s : Int), .int .i64 ((g : Int) + (s : Int)), t20, t21, t22, t23, t24, t25, t26, t27, t28, t29, t30, t31, t32], defers := [] } W) := ⟨by
  refine ⟨fun h => (by rw [show Region.ready .any (opsOf Try.f80 4) #[true, true, true, true, false, false, false, false] = [4] from by kernel_rfl] at h; cases h), fun i hi => ?_⟩
  rw [show Region.ready .any (opsOf Try.f80 4) #[true, true, true, true, false, false, false, false] = [4] from by kernel_rfl] at hi
  simp only [List.mem_cons, List.not_mem_nil, or_false] at hi
  obtain rfl := hi
  refine opv_ (v := .int .i64 (m : Int)) (N := 20) hash_o4 (by rfl) rfl ?_ ?_ (G_01234.out)
  ·go_simp
   try rfl
  ·go_simp
   try rfl⟩
 have G_0124 : Aside0 (wpAnyIn Fence.wide n Try.prog .any (opsOf Try.f80 4) Q 4 #[true, true, true, false, true, false, false, false] { tmps := #[t0, .pointer (some ⟨Bn, 0, none⟩), .pointer (some ⟨Bg, 0, none⟩), .pointer (some ⟨sy, 0, none⟩), .int .i64 (s : Int), t5, t6, t7, t8, t9, t10, t11, t12, t13, t14, t15, .func (.yield l) #[] #[], .int .i64 (g : Int), .int .i64 (s : Int), t19, .int .i64 (m : Int), t21, t22, t23, t24, t25, t26, t27, t28, t29, t30, t31, t32], defers := [] } W) := ⟨by
  refine ⟨fun h => (by rw [show Region.ready .any (opsOf Try.f80 4) #[true, true, true, false, true, false, false, false] = [3] from by kernel_rfl] at h; cases h), fun i hi => ?_⟩
  rw [show Region.ready .any (opsOf Try.f80 4) #[true, true, true, false, true, false, false, false] = [3] from by kernel_rfl] at hi
  simp only [List.mem_cons, List.not_mem_nil, or_false] at hi
  obtain rfl := hi
  refine opv_ (v := .int .i64 ((g : Int) + (s : Int))) (N := 19) hash_o3 (by rfl) rfl ?_ ?_ (G_01234.out)
  ·go_simp
   try rfl
  ·go_simp
   try rfl⟩
 have G_1234 : Aside0 (wpAnyIn Fence.wide n Try.prog .any (opsOf Try.f80 4) Q 4 #[false, true, true, true, true, false, false, false] { tmps := #[t0, .pointer (some ⟨Bn, 0, none⟩), .pointer (some ⟨Bg, 0, none⟩), .pointer (some ⟨sy, 0, none⟩), .int .i64 (s : Int), t5, t6, t7, t8, t9, t10, t11, t12, t13, t14, t15, t16, .int .i64 (g : Int), .int .i64 (s : Int), .int .i64 ((g : Int) + (s : Int)), .int .i64 (m : Int), t21, t22, t23, t24, t25, t26, t27, t28, t29, t30, t31, t32], defers := [] } W) := ⟨by
  refine ⟨fun h => (by rw [show Region.ready .any (opsOf Try.f80 4) #[false, true, true, true, true, false, false, false] = [0, 5] from by kernel_rfl] at h; cases h), fun i hi => ?_⟩
  rw [show Region.ready .any (opsOf Try.f80 4) #[false, true, true, true, true, false, false, false] = [0, 5] from by kernel_rfl] at hi
  simp only [List.mem_cons, List.not_mem_nil, or_false] at hi
  rcases hi with rfl | rfl
  ·refine opv_ (v := .func (.yield l) #[] #[]) (N := 16) hash_o0 (by rfl) rfl ?_ ?_ (G_01234.out)
   ·go_simp
    try rfl
   ·go_simp
    try rfl
  ·refine opv_ (v := .int .i64 x) (N := 21) hash_o5 (by rfl) rfl ?_ ?_ (G_12345.out)
   ·go_simp
    try rfl
   ·go_simp
    try rfl⟩
 have G_012 : Aside0 (wpAnyIn Fence.wide n Try.prog .any (opsOf Try.f80 4) Q 5 #[true, true, true, false, false, false, false, false] { tmps := #[t0, .pointer (some ⟨Bn, 0, none⟩), .pointer (some ⟨Bg, 0, none⟩), .pointer (some ⟨sy, 0, none⟩), .int .i64 (s : Int), t5, t6, t7, t8, t9, t10, t11, t12, t13, t14, t15, .func (.yield l) #[] #[], .int .i64 (g : Int), .int .i64 (s : Int), t19, t20, t21, t22, t23, t24, t25, t26, t27, t28, t29, t30, t31, t32], defers := [] } W) := ⟨by
  refine ⟨fun h => (by rw [show Region.ready .any (opsOf Try.f80 4) #[true, true, true, false, false, false, false, false] = [3, 4] from by kernel_rfl] at h; cases h), fun i hi => ?_⟩
  rw [show Region.ready .any (opsOf Try.f80 4) #[true, true, true, false, false, false, false, false] = [3, 4] from by kernel_rfl] at hi
  simp only [List.mem_cons, List.not_mem_nil, or_false] at hi
  rcases hi with rfl | rfl
  ·refine opv_ (v := .int .i64 ((g : Int) + (s : Int))) (N := 19) hash_o3 (by rfl) rfl ?_ ?_ (G_0123.out)
   ·go_simp
    try rfl
   ·go_simp
    try rfl
  ·refine opv_ (v := .int .i64 (m : Int)) (N := 20) hash_o4 (by rfl) rfl ?_ ?_ (G_0124.out)
   ·go_simp
    try rfl
   ·go_simp
    try rfl⟩
 have G_014 : Aside0 (wpAnyIn Fence.wide n Try.prog .any (opsOf Try.f80 4) Q 5 #[true, true, false, false, true, false, false, false] { tmps := #[t0, .pointer (some ⟨Bn, 0, none⟩), .pointer (some ⟨Bg, 0, none⟩), .pointer (some ⟨sy, 0, none⟩), .int .i64 (s : Int), t5, t6, t7, t8, t9, t10, t11, t12, t13, t14, t15, .func (.yield l) #[] #[], .int .i64 (g : Int), t18, t19, .int .i64 (m : Int), t21, t22, t23, t24, t25, t26, t27, t28, t29, t30, t31, t32], defers := [] } W) := ⟨by
  refine ⟨fun h => (by rw [show Region.ready .any (opsOf Try.f80 4) #[true, true, false, false, true, false, false, false] = [2] from by kernel_rfl] at h; cases h), fun i hi => ?_⟩
  rw [show Region.ready .any (opsOf Try.f80 4) #[true, true, false, false, true, false, false, false] = [2] from by kernel_rfl] at hi
  simp only [List.mem_cons, List.not_mem_nil, or_false] at hi
  obtain rfl := hi
  refine opv_ (v := .int .i64 (s : Int)) (N := 18) hash_o2 (by rfl) rfl ?_ ?_ (G_0124.out)
  ·go_simp
   try rfl
  ·go_simp
   try rfl⟩
 have G_024 : Aside0 (wpAnyIn Fence.wide n Try.prog .any (opsOf Try.f80 4) Q 5 #[true, false, true, false, true, false, false, false] { tmps := #[t0, .pointer (some ⟨Bn, 0, none⟩), .pointer (some ⟨Bg, 0, none⟩), .pointer (some ⟨sy, 0, none⟩), .int .i64 (s : Int), t5, t6, t7, t8, t9, t10, t11, t12, t13, t14, t15, .func (.yield l) #[] #[], t17, .int .i64 (s : Int), t19, .int .i64 (m : Int), t21, t22, t23, t24, t25, t26, t27, t28, t29, t30, t31, t32], defers := [] } W) := ⟨by
  refine ⟨fun h => (by rw [show Region.ready .any (opsOf Try.f80 4) #[true, false, true, false, true, false, false, false] = [1] from by kernel_rfl] at h; cases h), fun i hi => ?_⟩
  rw [show Region.ready .any (opsOf Try.f80 4) #[true, false, true, false, true, false, false, false] = [1] from by kernel_rfl] at hi
  simp only [List.mem_cons, List.not_mem_nil, or_false] at hi
  obtain rfl := hi
  refine opv_ (v := .int .i64 (g : Int)) (N := 17) hash_o1 (by rfl) rfl ?_ ?_ (G_0124.out)
  ·go_simp
   try rfl
  ·go_simp
   try rfl⟩
 have G_123 : Aside0 (wpAnyIn Fence.wide n Try.prog .any (opsOf Try.f80 4) Q 5 #[false, true, true, true, false, false, false, false] { tmps := #[t0, .pointer (some ⟨Bn, 0, none⟩), .pointer (some ⟨Bg, 0, none⟩), .pointer (some ⟨sy, 0, none⟩), .int .i64 (s : Int), t5, t6, t7, t8, t9, t10, t11, t12, t13, t14, t15, t16, .int .i64 (g : Int), .int .i64 (s : Int), .int .i64 ((g : Int) + (s : Int)), t20, t21, t22, t23, t24, t25, t26, t27, t28, t29, t30, t31, t32], defers := [] } W) := ⟨by
  refine ⟨fun h => (by rw [show Region.ready .any (opsOf Try.f80 4) #[false, true, true, true, false, false, false, false] = [0, 4] from by kernel_rfl] at h; cases h), fun i hi => ?_⟩
  rw [show Region.ready .any (opsOf Try.f80 4) #[false, true, true, true, false, false, false, false] = [0, 4] from by kernel_rfl] at hi
  simp only [List.mem_cons, List.not_mem_nil, or_false] at hi
  rcases hi with rfl | rfl
  ·refine opv_ (v := .func (.yield l) #[] #[]) (N := 16) hash_o0 (by rfl) rfl ?_ ?_ (G_0123.out)
   ·go_simp
    try rfl
   ·go_simp
    try rfl
  ·refine opv_ (v := .int .i64 (m : Int)) (N := 20) hash_o4 (by rfl) rfl ?_ ?_ (G_1234.out)
   ·go_simp
    try rfl
   ·go_simp
    try rfl⟩
 have G_124 : Aside0 (wpAnyIn Fence.wide n Try.prog .any (opsOf Try.f80 4) Q 5 #[false, true, true, false, true, false, false, false] { tmps := #[t0, .pointer (some ⟨Bn, 0, none⟩), .pointer (some ⟨Bg, 0, none⟩), .pointer (some ⟨sy, 0, none⟩), .int .i64 (s : Int), t5, t6, t7, t8, t9, t10, t11, t12, t13, t14, t15, t16, .int .i64 (g : Int), .int .i64 (s : Int), t19, .int .i64 (m : Int), t21, t22, t23, t24, t25, t26, t27, t28, t29, t30, t31, t32], defers := [] } W) := ⟨by
  refine ⟨fun h => (by rw [show Region.ready .any (opsOf Try.f80 4) #[false, true, true, false, true, false, false, false] = [0, 3] from by kernel_rfl] at h; cases h), fun i hi => ?_⟩
  rw [show Region.ready .any (opsOf Try.f80 4) #[false, true, true, false, true, false, false, false] = [0, 3] from by kernel_rfl] at hi
  simp only [List.mem_cons, List.not_mem_nil, or_false] at hi
  rcases hi with rfl | rfl
  ·refine opv_ (v := .func (.yield l) #[] #[]) (N := 16) hash_o0 (by rfl) rfl ?_ ?_ (G_0124.out)
   ·go_simp
    try rfl
   ·go_simp
    try rfl
  ·refine opv_ (v := .int .i64 ((g : Int) + (s : Int))) (N := 19) hash_o3 (by rfl) rfl ?_ ?_ (G_1234.out)
   ·go_simp
    try rfl
   ·go_simp
    try rfl⟩
 have G_01 : Aside0 (wpAnyIn Fence.wide n Try.prog .any (opsOf Try.f80 4) Q 6 #[true, true, false, false, false, false, false, false] { tmps := #[t0, .pointer (some ⟨Bn, 0, none⟩), .pointer (some ⟨Bg, 0, none⟩), .pointer (some ⟨sy, 0, none⟩), .int .i64 (s : Int), t5, t6, t7, t8, t9, t10, t11, t12, t13, t14, t15, .func (.yield l) #[] #[], .int .i64 (g : Int), t18, t19, t20, t21, t22, t23, t24, t25, t26, t27, t28, t29, t30, t31, t32], defers := [] } W) := ⟨by
  refine ⟨fun h => (by rw [show Region.ready .any (opsOf Try.f80 4) #[true, true, false, false, false, false, false, false] = [2, 4] from by kernel_rfl] at h; cases h), fun i hi => ?_⟩
  rw [show Region.ready .any (opsOf Try.f80 4) #[true, true, false, false, false, false, false, false] = [2, 4] from by kernel_rfl] at hi
  simp only [List.mem_cons, List.not_mem_nil, or_false] at hi
  rcases hi with rfl | rfl
  ·refine opv_ (v := .int .i64 (s : Int)) (N := 18) hash_o2 (by rfl) rfl ?_ ?_ (G_012.out)
   ·go_simp
    try rfl
   ·go_simp
    try rfl
  ·refine opv_ (v := .int .i64 (m : Int)) (N := 20) hash_o4 (by rfl) rfl ?_ ?_ (G_014.out)
   ·go_simp
    try rfl
   ·go_simp
    try rfl⟩
 have G_02 : Aside0 (wpAnyIn Fence.wide n Try.prog .any (opsOf Try.f80 4) Q 6 #[true, false, true, false, false, false, false, false] { tmps := #[t0, .pointer (some ⟨Bn, 0, none⟩), .pointer (some ⟨Bg, 0, none⟩), .pointer (some ⟨sy, 0, none⟩), .int .i64 (s : Int), t5, t6, t7, t8, t9, t10, t11, t12, t13, t14, t15, .func (.yield l) #[] #[], t17, .int .i64 (s : Int), t19, t20, t21, t22, t23, t24, t25, t26, t27, t28, t29, t30, t31, t32], defers := [] } W) := ⟨by
  refine ⟨fun h => (by rw [show Region.ready .any (opsOf Try.f80 4) #[true, false, true, false, false, false, false, false] = [1, 4] from by kernel_rfl] at h; cases h), fun i hi => ?_⟩
  rw [show Region.ready .any (opsOf Try.f80 4) #[true, false, true, false, false, false, false, false] = [1, 4] from by kernel_rfl] at hi
  simp only [List.mem_cons, List.not_mem_nil, or_false] at hi
  rcases hi with rfl | rfl
  ·refine opv_ (v := .int .i64 (g : Int)) (N := 17) hash_o1 (by rfl) rfl ?_ ?_ (G_012.out)
   ·go_simp
    try rfl
   ·go_simp
    try rfl
  ·refine opv_ (v := .int .i64 (m : Int)) (N := 20) hash_o4 (by rfl) rfl ?_ ?_ (G_024.out)
   ·go_simp
    try rfl
   ·go_simp
    try rfl⟩
 have G_04 : Aside0 (wpAnyIn Fence.wide n Try.prog .any (opsOf Try.f80 4) Q 6 #[true, false, false, false, true, false, false, false] { tmps := #[t0, .pointer (some ⟨Bn, 0, none⟩), .pointer (some ⟨Bg, 0, none⟩), .pointer (some ⟨sy, 0, none⟩), .int .i64 (s : Int), t5, t6, t7, t8, t9, t10, t11, t12, t13, t14, t15, .func (.yield l) #[] #[], t17, t18, t19, .int .i64 (m : Int), t21, t22, t23, t24, t25, t26, t27, t28, t29, t30, t31, t32], defers := [] } W) := ⟨by
  refine ⟨fun h => (by rw [show Region.ready .any (opsOf Try.f80 4) #[true, false, false, false, true, false, false, false] = [1, 2] from by kernel_rfl] at h; cases h), fun i hi => ?_⟩
  rw [show Region.ready .any (opsOf Try.f80 4) #[true, false, false, false, true, false, false, false] = [1, 2] from by kernel_rfl] at hi
  simp only [List.mem_cons, List.not_mem_nil, or_false] at hi
  rcases hi with rfl | rfl
  ·refine opv_ (v := .int .i64 (g : Int)) (N := 17) hash_o1 (by rfl) rfl ?_ ?_ (G_014.out)
   ·go_simp
    try rfl
   ·go_simp
    try rfl
  ·refine opv_ (v := .int .i64 (s : Int)) (N := 18) hash_o2 (by rfl) rfl ?_ ?_ (G_024.out)
   ·go_simp
    try rfl
   ·go_simp
    try rfl⟩
 have G_12 : Aside0 (wpAnyIn Fence.wide n Try.prog .any (opsOf Try.f80 4) Q 6 #[false, true, true, false, false, false, false, false] { tmps := #[t0, .pointer (some ⟨Bn, 0, none⟩), .pointer (some ⟨Bg, 0, none⟩), .pointer (some ⟨sy, 0, none⟩), .int .i64 (s : Int), t5, t6, t7, t8, t9, t10, t11, t12, t13, t14, t15, t16, .int .i64 (g : Int), .int .i64 (s : Int), t19, t20, t21, t22, t23, t24, t25, t26, t27, t28, t29, t30, t31, t32], defers := [] } W) := ⟨by
  refine ⟨fun h => (by rw [show Region.ready .any (opsOf Try.f80 4) #[false, true, true, false, false, false, false, false] = [0, 3, 4] from by kernel_rfl] at h; cases h), fun i hi => ?_⟩
  rw [show Region.ready .any (opsOf Try.f80 4) #[false, true, true, false, false, false, false, false] = [0, 3, 4] from by kernel_rfl] at hi
  simp only [List.mem_cons, List.not_mem_nil, or_false] at hi
  rcases hi with rfl | rfl | rfl
  ·refine opv_ (v := .func (.yield l) #[] #[]) (N := 16) hash_o0 (by rfl) rfl ?_ ?_ (G_012.out)
   ·go_simp
    try rfl
   ·go_simp
    try rfl
  ·refine opv_ (v := .int .i64 ((g : Int) + (s : Int))) (N := 19) hash_o3 (by rfl) rfl ?_ ?_ (G_123.out)
   ·go_simp
    try rfl
   ·go_simp
    try rfl
  ·refine opv_ (v := .int .i64 (m : Int)) (N := 20) hash_o4 (by rfl) rfl ?_ ?_ (G_124.out)
   ·go_simp
    try rfl
   ·go_simp
    try rfl⟩
 have G_14 : Aside0 (wpAnyIn Fence.wide n Try.prog .any (opsOf Try.f80 4) Q 6 #[false, true, false, false, true, false, false, false] { tmps := #[t0, .pointer (some ⟨Bn, 0, none⟩), .pointer (some ⟨Bg, 0, none⟩), .pointer (some ⟨sy, 0, none⟩), .int .i64 (s : Int), t5, t6, t7, t8, t9, t10, t11, t12, t13, t14, t15, t16, .int .i64 (g : Int), t18, t19, .int .i64 (m : Int), t21, t22, t23, t24, t25, t26, t27, t28, t29, t30, t31, t32], defers := [] } W) := ⟨by
  refine ⟨fun h => (by rw [show Region.ready .any (opsOf Try.f80 4) #[false, true, false, false, true, false, false, false] = [0, 2] from by kernel_rfl] at h; cases h), fun i hi => ?_⟩
  rw [show Region.ready .any (opsOf Try.f80 4) #[false, true, false, false, true, false, false, false] = [0, 2] from by kernel_rfl] at hi
  simp only [List.mem_cons, List.not_mem_nil, or_false] at hi
  rcases hi with rfl | rfl
  ·refine opv_ (v := .func (.yield l) #[] #[]) (N := 16) hash_o0 (by rfl) rfl ?_ ?_ (G_014.out)
   ·go_simp
    try rfl
   ·go_simp
    try rfl
  ·refine opv_ (v := .int .i64 (s : Int)) (N := 18) hash_o2 (by rfl) rfl ?_ ?_ (G_124.out)
   ·go_simp
    try rfl
   ·go_simp
    try rfl⟩
 have G_24 : Aside0 (wpAnyIn Fence.wide n Try.prog .any (opsOf Try.f80 4) Q 6 #[false, false, true, false, true, false, false, false] { tmps := #[t0, .pointer (some ⟨Bn, 0, none⟩), .pointer (some ⟨Bg, 0, none⟩), .pointer (some ⟨sy, 0, none⟩), .int .i64 (s : Int), t5, t6, t7, t8, t9, t10, t11, t12, t13, t14, t15, t16, t17, .int .i64 (s : Int), t19, .int .i64 (m : Int), t21, t22, t23, t24, t25, t26, t27, t28, t29, t30, t31, t32], defers := [] } W) := ⟨by
  refine ⟨fun h => (by rw [show Region.ready .any (opsOf Try.f80 4) #[false, false, true, false, true, false, false, false] = [0, 1] from by kernel_rfl] at h; cases h), fun i hi => ?_⟩
  rw [show Region.ready .any (opsOf Try.f80 4) #[false, false, true, false, true, false, false, false] = [0, 1] from by kernel_rfl] at hi
  simp only [List.mem_cons, List.not_mem_nil, or_false] at hi
  rcases hi with rfl | rfl
  ·refine opv_ (v := .func (.yield l) #[] #[]) (N := 16) hash_o0 (by rfl) rfl ?_ ?_ (G_024.out)
   ·go_simp
    try rfl
   ·go_simp
    try rfl
  ·refine opv_ (v := .int .i64 (g : Int)) (N := 17) hash_o1 (by rfl) rfl ?_ ?_ (G_124.out)
   ·go_simp
    try rfl
   ·go_simp
    try rfl⟩
 have G_0 : Aside0 (wpAnyIn Fence.wide n Try.prog .any (opsOf Try.f80 4) Q 7 #[true, false, false, false, false, false, false, false] { tmps := #[t0, .pointer (some ⟨Bn, 0, none⟩), .pointer (some ⟨Bg, 0, none⟩), .pointer (some ⟨sy, 0, none⟩), .int .i64 (s : Int), t5, t6, t7, t8, t9, t10, t11, t12, t13, t14, t15, .func (.yield l) #[] #[], t17, t18, t19, t20, t21, t22, t23, t24, t25, t26, t27, t28, t29, t30, t31, t32], defers := [] } W) := ⟨by
  refine ⟨fun h => (by rw [show Region.ready .any (opsOf Try.f80 4) #[true, false, false, false, false, false, false, false] = [1, 2, 4] from by kernel_rfl] at h; cases h), fun i hi => ?_⟩
  rw [show Region.ready .any (opsOf Try.f80 4) #[true, false, false, false, false, false, false, false] = [1, 2, 4] from by kernel_rfl] at hi
  simp only [List.mem_cons, List.not_mem_nil, or_false] at hi
  rcases hi with rfl | rfl | rfl
  ·refine opv_ (v := .int .i64 (g : Int)) (N := 17) hash_o1 (by rfl) rfl ?_ ?_ (G_01.out)
   ·go_simp
    try rfl
   ·go_simp
    try rfl
  ·refine opv_ (v := .int .i64 (s : Int)) (N := 18) hash_o2 (by rfl) rfl ?_ ?_ (G_02.out)
   ·go_simp
    try rfl
   ·go_simp
    try rfl
  ·refine opv_ (v := .int .i64 (m : Int)) (N := 20) hash_o4 (by rfl) rfl ?_ ?_ (G_04.out)
   ·go_simp
    try rfl
   ·go_simp
    try rfl⟩
 have G_1 : Aside0 (wpAnyIn Fence.wide n Try.prog .any (opsOf Try.f80 4) Q 7 #[false, true, false, false, false, false, false, false] { tmps := #[t0, .pointer (some ⟨Bn, 0, none⟩), .pointer (some ⟨Bg, 0, none⟩), .pointer (some ⟨sy, 0, none⟩), .int .i64 (s : Int), t5, t6, t7, t8, t9, t10, t11, t12, t13, t14, t15, t16, .int .i64 (g : Int), t18, t19, t20, t21, t22, t23, t24, t25, t26, t27, t28, t29, t30, t31, t32], defers := [] } W) := ⟨by
  refine ⟨fun h => (by rw [show Region.ready .any (opsOf Try.f80 4) #[false, true, false, false, false, false, false, false] = [0, 2, 4] from by kernel_rfl] at h; cases h), fun i hi => ?_⟩
  rw [show Region.ready .any (opsOf Try.f80 4) #[false, true, false, false, false, false, false, false] = [0, 2, 4] from by kernel_rfl] at hi
  simp only [List.mem_cons, List.not_mem_nil, or_false] at hi
  rcases hi with rfl | rfl | rfl
  ·refine opv_ (v := .func (.yield l) #[] #[]) (N := 16) hash_o0 (by rfl) rfl ?_ ?_ (G_01.out)
   ·go_simp
    try rfl
   ·go_simp
    try rfl
  ·refine opv_ (v := .int .i64 (s : Int)) (N := 18) hash_o2 (by rfl) rfl ?_ ?_ (G_12.out)
   ·go_simp
    try rfl
   ·go_simp
    try rfl
  ·refine opv_ (v := .int .i64 (m : Int)) (N := 20) hash_o4 (by rfl) rfl ?_ ?_ (G_14.out)
   ·go_simp
    try rfl
   ·go_simp
    try rfl⟩
 have G_2 : Aside0 (wpAnyIn Fence.wide n Try.prog .any (opsOf Try.f80 4) Q 7 #[false, false, true, false, false, false, false, false] { tmps := #[t0, .pointer (some ⟨Bn, 0, none⟩), .pointer (some ⟨Bg, 0, none⟩), .pointer (some ⟨sy, 0, none⟩), .int .i64 (s : Int), t5, t6, t7, t8, t9, t10, t11, t12, t13, t14, t15, t16, t17, .int .i64 (s : Int), t19, t20, t21, t22, t23, t24, t25, t26, t27, t28, t29, t30, t31, t32], defers := [] } W) := ⟨by
  refine ⟨fun h => (by rw [show Region.ready .any (opsOf Try.f80 4) #[false, false, true, false, false, false, false, false] = [0, 1, 4] from by kernel_rfl] at h; cases h), fun i hi => ?_⟩
  rw [show Region.ready .any (opsOf Try.f80 4) #[false, false, true, false, false, false, false, false] = [0, 1, 4] from by kernel_rfl] at hi
  simp only [List.mem_cons, List.not_mem_nil, or_false] at hi
  rcases hi with rfl | rfl | rfl
  ·refine opv_ (v := .func (.yield l) #[] #[]) (N := 16) hash_o0 (by rfl) rfl ?_ ?_ (G_02.out)
   ·go_simp
    try rfl
   ·go_simp
    try rfl
  ·refine opv_ (v := .int .i64 (g : Int)) (N := 17) hash_o1 (by rfl) rfl ?_ ?_ (G_12.out)
   ·go_simp
    try rfl
   ·go_simp
    try rfl
  ·refine opv_ (v := .int .i64 (m : Int)) (N := 20) hash_o4 (by rfl) rfl ?_ ?_ (G_24.out)
   ·go_simp
    try rfl
   ·go_simp
    try rfl⟩
 have G_4 : Aside0 (wpAnyIn Fence.wide n Try.prog .any (opsOf Try.f80 4) Q 7 #[false, false, false, false, true, false, false, false] { tmps := #[t0, .pointer (some ⟨Bn, 0, none⟩), .pointer (some ⟨Bg, 0, none⟩), .pointer (some ⟨sy, 0, none⟩), .int .i64 (s : Int), t5, t6, t7, t8, t9, t10, t11, t12, t13, t14, t15, t16, t17, t18, t19, .int .i64 (m : Int), t21, t22, t23, t24, t25, t26, t27, t28, t29, t30, t31, t32], defers := [] } W) := ⟨by
  refine ⟨fun h => (by rw [show Region.ready .any (opsOf Try.f80 4) #[false, false, false, false, true, false, false, false] = [0, 1, 2] from by kernel_rfl] at h; cases h), fun i hi => ?_⟩
  rw [show Region.ready .any (opsOf Try.f80 4) #[false, false, false, false, true, false, false, false] = [0, 1, 2] from by kernel_rfl] at hi
  simp only [List.mem_cons, List.not_mem_nil, or_false] at hi
  rcases hi with rfl | rfl | rfl
  ·refine opv_ (v := .func (.yield l) #[] #[]) (N := 16) hash_o0 (by rfl) rfl ?_ ?_ (G_04.out)
   ·go_simp
    try rfl
   ·go_simp
    try rfl
  ·refine opv_ (v := .int .i64 (g : Int)) (N := 17) hash_o1 (by rfl) rfl ?_ ?_ (G_14.out)
   ·go_simp
    try rfl
   ·go_simp
    try rfl
  ·refine opv_ (v := .int .i64 (s : Int)) (N := 18) hash_o2 (by rfl) rfl ?_ ?_ (G_24.out)
   ·go_simp
    try rfl
   ·go_simp
    try rfl⟩
 have G_ : Aside0 (wpAnyIn Fence.wide n Try.prog .any (opsOf Try.f80 4) Q 8 #[false, false, false, false, false, false, false, false] { tmps := #[t0, .pointer (some ⟨Bn, 0, none⟩), .pointer (some ⟨Bg, 0, none⟩), .pointer (some ⟨sy, 0, none⟩), .int .i64 (s : Int), t5, t6, t7, t8, t9, t10, t11, t12, t13, t14, t15, t16, t17, t18, t19, t20, t21, t22, t23, t24, t25, t26, t27, t28, t29, t30, t31, t32], defers := [] } W) := ⟨by
  refine ⟨fun h => (by rw [show Region.ready .any (opsOf Try.f80 4) #[false, false, false, false, false, false, false, false] = [0, 1, 2, 4] from by kernel_rfl] at h; cases h), fun i hi => ?_⟩
  rw [show Region.ready .any (opsOf Try.f80 4) #[false, false, false, false, false, false, false, false] = [0, 1, 2, 4] from by kernel_rfl] at hi
  simp only [List.mem_cons, List.not_mem_nil, or_false] at hi
  rcases hi with rfl | rfl | rfl | rfl
  ·refine opv_ (v := .func (.yield l) #[] #[]) (N := 16) hash_o0 (by rfl) rfl ?_ ?_ (G_0.out)
   ·go_simp
    try rfl
   ·go_simp
    try rfl
  ·refine opv_ (v := .int .i64 (g : Int)) (N := 17) hash_o1 (by rfl) rfl ?_ ?_ (G_1.out)
   ·go_simp
    try rfl
   ·go_simp
    try rfl
  ·refine opv_ (v := .int .i64 (s : Int)) (N := 18) hash_o2 (by rfl) rfl ?_ ?_ (G_2.out)
   ·go_simp
    try rfl
   ·go_simp
    try rfl
  ·refine opv_ (v := .int .i64 (m : Int)) (N := 20) hash_o4 (by rfl) rfl ?_ ?_ (G_4.out)
   ·go_simp
    try rfl
   ·go_simp
    try rfl⟩
 exact G_.out
set_option maxRecDepth 100000 in
set_option maxHeartbeats 4000000 in
theorem hash_in (n l Bn Bg g m : Nat) (hg : g ≤ 1000) (hm1 : 1 ≤ m) (hm : m ≤ 1000) (J Jx : List (Rng m) → World → Prop) (W : World) (hl : l < W.heap.size) (hBn : Bn ≠ l) (hBg : Bg ≠ l) (hJ : OwnFrom W.heap.size J) (hJx : OwnFrom W.heap.size Jx)
  (hY : ∀ (k : Nat) pre (x : Rng m) W1, J pre W1 → pre.length < m + 5 → YieldAt Fence.wide k Try.prog l #[.int .i64 x.1] W1 fun e W' =>
   (e = .returned (.bool true) ∧ J (pre ++ [x]) W' ∧ KeepsBut l W1 W') ∨ (e = .returned (.bool false) ∧ Jx (pre ++ [x]) W' ∧ KeepsFrom W.heap.size W1 W'))
  (hbn : W.heap[Bn]? = some (.cells #[.int .i64 (m : Int)] 3 (0, 0))) (hbg : W.heap[Bg]? = some (.cells #[.int .i64 (g : Int)] 3 (0, 0))) (h0 : J [] W) :
  CallsIn Fence.wide n Try.prog 80 #[.func (.yield l) #[] #[], .pointer (some ⟨Bn, 0, none⟩), .pointer (some ⟨Bg, 0, none⟩)] W fun e W' => (∃ v, e = .returned v) ∧
   ((∃ ys : List (Rng m), ys.map (·.1) = hashL g m ∧ J ys W') ∨ (∃ pre : List (Rng m), pre.map (·.1) <+: hashL g m ∧ Jx pre W')) := by
 refine callsIn_of_wp_marks Try.func80 rfl trivial ?_ rfl
 simp only [Try.ntmps80, List.size_toArray, List.length_cons, List.length_nil, Nat.reduceAdd, Nat.reduceSub, Array.replicate_succ, Array.replicate_zero, List.push_toArray, List.append_toArray, List.nil_append, List.cons_append]
 gi_wp2
 have hW2 : (W.alloc (.cells #[.func (.yield l) #[] #[]] 88)).heap[W.heap.size]? = some (.cells #[.func (.yield l) #[] #[]] 88 (0, 0)) := World.alloc_heap_new _ _
 have hB0 : Below W.heap.size W (W.alloc (.cells #[.func (.yield l) #[] #[]] 88)) := below_alloc (Below.refl _ _) _
 have hbn2 := blk_below hbn hB0
 have hbg2 := blk_below hbg hB0
 have hJ2 := hJ.alloc (.cells #[.func (.yield l) #[] #[]] 88) h0
 have hz2 : (W.alloc (.cells #[.func (.yield l) #[] #[]] 88)).heap.size = W.heap.size + 1 := by simp
 obtain ⟨W2, hW2e⟩ : ∃ W2, W.alloc (.cells #[.func (.yield l) #[] #[]] 88) = W2 := ⟨_, rfl⟩
 rw [hW2e] at hW2 hB0 hbn2 hbg2 hJ2 hz2 ⊢
 obtain ⟨sy, hsy⟩ : ∃ sy, W.heap.size = sy := ⟨_, rfl⟩
 rw [hsy] at hW2 hB0 hJ hJx hl hY hz2 ⊢
 clear hW2e hbn hbg h0
 gi_loopw [4] (fun st wr => ∃ s : Nat, st = .int .i64 s ∧ s ∈ stepsL ∧ ∃ ys : List (Rng m), Aside0 (ys.map (·.1) ++ hashR g m s = hashR g m 0) ∧ J ys wr ∧ KeepsBut l W2 wr) (fun st _ => 32 - (intOf st).toNat)
 case atStart => exact ⟨0, rfl, by decide, [], ⟨rfl⟩, hJ2, ⟨Nat.le_refl _, fun _ _ _ h => h⟩⟩
 case round =>
  obtain ⟨s, rfl, hs, ys, hys, hJs, hK⟩ := hrel
  have cy : wr.cell? ⟨sy, 0, none⟩ = some (.func (.yield l) #[] #[]) := (blk_cell (hK.same _ _ (by omega) hW2) 0).trans rfl
  have cn : wr.cell? ⟨Bn, 0, none⟩ = some (.int .i64 (m : Int)) := (blk_cell (hK.same _ _ hBn hbn2) 0).trans rfl
  have cg : wr.cell? ⟨Bg, 0, none⟩ = some (.int .i64 (g : Int)) := (blk_cell (hK.same _ _ hBg hbg2) 0).trans rfl
  by_cases h1 : s ≤ 15
  ·by_cases h2 : s ≤ m
   ·have hxr : 0 ≤ (((g + s) % m : Nat) : Int) ∧ (((g + s) % m : Nat) : Int) < (m : Int) := ⟨by omega, by have := Nat.mod_lt (g + s) (show 0 < m by omega); omega⟩
    have hst := hashR_step g m s hs h1 h2
    have em : Int.tmod ((g : Int) + (s : Int)) (m : Int) = (((g + s) % m : Nat) : Int) := by
     rw [show ((g : Int) + (s : Int)) = ((g + s : Nat) : Int) by omega]
     exact Int.ofNat_tmod _ _
    have e2 : ((g : Int) + (s : Int)) % (m : Int) = (((g + s) % m : Nat) : Int) := by
     rw [show (g : Int) + (s : Int) = ((g + s : Nat) : Int) by omega]; rfl
    generalize (((g + s) % m : Nat) : Int) = x at hxr hst em e2
    obtain ⟨xr, hxs⟩ : ∃ s : Rng m, s.1 = x := ⟨⟨x, hxr⟩, rfl⟩
    have hlen : ys.length < m + 5 := by
     have h_ := congrArg List.length hys.out
     rw [List.length_append, List.length_map, hst.1, List.length_cons] at h_
     have h2_ : (hashR g m 0).length ≤ 5 := by
      unfold hashR
      rw [List.length_map]
      exact List.length_filter_le _ _
     omega
    have hy := yld_of (hY (n - 1) ys xr wr.drew (own_drew hJ hJs) hlen)
    rw [hxs] at hy
    have HST := Aside0.mk hst
    have HX := Aside0.mk hxs
    have HY_ := Aside0.mk hy
    have hne : ((m : Int) == 0) = false := by rw [beq_eq_false_iff_ne]; omega
    have hne3 : ¬ m = 0 := by omega
    have hwz : IntKind.i64.wrap ((g : Int) + (s : Int)) = (g : Int) + (s : Int) := IntWalk.i64_in _ (by omega)
    have hs16 : (s : Int) ≤ 15 := by omega
    have hsm : (s : Int) ≤ (m : Int) := by omega
    have HF := Aside0.mk (And.intro hne (And.intro hne3 (And.intro hwz (And.intro em e2))))
    clear hxr hst hxs hy hne hne3 hwz em e2
    gi_wp2
    obtain ⟨hne, hne3, hwz, em, e2⟩ := HF.out
    refine hash_r4 _ _ _ _ _ _ _ _ _ _ _ _ _ _ _ _ _ _ _ _ _ _ _ _ _ _ _ _ _ wr cy cn cg hne hne3 hwz em hg h1 hm1 hm e2 HY_.out (fun b W3 hb => ?_)
    clear hne hne3 hwz em e2
    rcases hb with ⟨rfl, hJ3, hk3⟩ | ⟨rfl, hJx3, hk3⟩
    ·gi_wp2
     go_roundw
     case rel => exact ⟨2 * s + 1, by go_num, HST.out.2, ys ++ [xr], ⟨by rw [← hys.out, HST.out.1, List.map_append, List.append_assoc, ← HX.out]; rfl⟩, hJ3, hK.trans ((KeepsBut.drew _ _).trans hk3)⟩
     case measure => simp [intOf]; omega
    ·gi_wp2
     refine ⟨_, results_none rfl _ _ _, ⟨⟨_, rfl⟩, .inr ⟨ys ++ [xr], ?_, hJx3⟩⟩⟩
     unfold hashL
     rw [← hys.out, HST.out.1, List.map_append, List.append_assoc, ← HX.out]
     exact ⟨hashR g m (2 * s + 1) ++ roundL (g + 1) m, by simp⟩
   ·have hst := hashR_stop g m s (.inr (by omega))
    have HST := Aside0.mk hst
    have HH := Aside0.mk hs
    clear hst hs
    have hs16 : (s : Int) ≤ 15 := by omega
    have hsm : decide ((s : Int) ≤ (m : Int)) = false := decide_eq_false (by omega)
    gi_wp2
    refine ⟨trivial, fun h => (by cases h), (round_in Fence.wide _ trivial rfl ((g : Int) + 1) (m : Int) wr).mono ?_⟩
    rintro e w9 ⟨rfl, hw9⟩
    have HW9 := Aside0.mk hw9
    clear hw9 cy cn cg
    gi_wp2
    have KF : w9.heap[wr.heap.size]? = some (.cells #[.int .i64 ((g + 1 : Nat) : Int)] 3 (0, 0)) := by rw [HW9.out]; exact blk_alloc (blk_new wr _) _
    have KN : w9.heap[wr.heap.size + 1]? = some (.cells #[.int .i64 (m : Int)] 3 (0, 0)) := by rw [HW9.out]; exact (by have := blk_new (wr.alloc (.cells #[.int .i64 ((g : Int) + 1)] 3)) (.cells #[.int .i64 (m : Int)] 3); rw [World.size_alloc] at this; exact this)
    have hb9 : Below wr.heap.size wr w9 := by rw [HW9.out]; exact below_alloc (below_alloc (Below.refl _ _) _) _
    have hJ9 : J ys w9 := by rw [HW9.out]; exact hJ.alloc _ (hJ.alloc _ hJs)
    have hK9 : KeepsBut l W2 w9 := hK.trans (KeepsBut.below hb9)
    have hz9 : w9.heap.size = wr.heap.size + 2 := by rw [HW9.out]; simp
    have hz8 := hK.size
    obtain ⟨sF, hsF⟩ : ∃ s, wr.heap.size = s := ⟨_, rfl⟩
    rw [hsF] at KF KN hz9 hz8 ⊢
    clear hb9 hsF
    refine wpIn_wide.2 ((wpIn_wide (n := 12)).1 ?_)
    have HH9 := Aside0.mk hys.out
    rw [HST.out, List.append_nil] at HH9
    refine wpIn_rangeFunc_ownH rfl (by omega) (gf := 73) (lb := #[.pointer (some ⟨sF + 1, 0, none⟩), .pointer (some ⟨sF, 0, none⟩)]) rfl trivial (enters_of Try.func73 (by kernel_rfl) rfl)
     (roundK_stops Fence.wide 11 trivial rfl (by omega) (sF + 1) sF (g + 1) m (by omega) (by omega) w9 KN KF) KeepsTwo.trans (fun W l' o o' g1 g2 _ _ k o'' hk ho => (World.putObj_heap_other (by omega)).trans ho) (Below.refl _ _) (fun _ => rfl)
     (fun pre W => J (ys ++ pre) W ∧ KeepsBut l W2 W) (fun c pre W => c = .ret ∧ Jx (ys ++ pre) W)
     (OwnFrom.and (fun q A B row g1 g2 g3 => own_less hJ (show sy ≤ w9.heap.size by omega) (ys ++ q) A B row g1 g2 g3) (own_but (by omega)))
     (fun c q A B row g1 g2 g3 => ⟨g1.1, own_less hJx (show sy ≤ w9.heap.size by omega) (ys ++ q) A B row g1.2 g2 g3⟩)
     ⟨by rw [List.append_nil]; exact hJ9, hK9⟩
     (fun x a' _ => a' = { tmps := #[.func (.yield l) #[] #[], .pointer (some ⟨Bn, 0, none⟩), .pointer (some ⟨Bg, 0, none⟩), .pointer (some ⟨sy, 0, none⟩), .int .i64 (s : Int), .int .i64 x.1, .int .i64 (s : Int), .bool true, .bool true, .int .i64 (s : Int), .int .i64 (m : Int), .bool false, .bool false, u13, u14, u15, u16, u17, u18, u19, u20, u21, u22, u23, .int .i64 (g : Int), .int .i64 ((g : Int) + 1), .int .i64 (m : Int), .func (.func 73) #[] #[.pointer (some ⟨sF + 1, 0, none⟩), .pointer (some ⟨sF, 0, none⟩)], .int .i64 x.1, undef, undef, undef, undef], defers := [] }) (fun x a' _ _ _ _ g1 _ _ => g1) ?assign ?body ?done ?stop
    case assign =>
     rintro lr pre x W K hI hA
     gi_wp2
     exact hA _ _ (KeepsFrom.refl _ _) (fun _ _ _ g1 => g1) hI rfl
    case body =>
     rintro lr pre x a' W hl' ⟨r, hr⟩ ⟨hJW, hKW⟩ rfl hlt
     have cy : W.cell? ⟨sy, 0, none⟩ = some (.func (.yield l) #[] #[]) := (blk_cell (hKW.same _ _ (by omega) hW2) 0).trans rfl
     have hy := yld_of (hY (12 - 1 - 1 - 1) (ys ++ pre) x W hJW (by
      have h_ := congrArg List.length HH9.out
      rw [List.length_map] at h_
      have h2_ : (hashR g m 0).length ≤ 5 := by
       unfold hashR
       rw [List.length_map]
       exact List.length_filter_le _ _
      rw [List.length_append]
      omega))
     obtain ⟨fn, tmps, assign, body, hyr, hR⟩ := hy
     gi_wp2
     refine (show RoundIn (Fence.wide.inRound lr) 9 Try.prog l fn tmps assign body W _ from hR).mono ?_
     rintro e W3 ⟨b, rfl, hyl⟩
     rcases hyl with ⟨rfl, hJ3, hk3⟩ | ⟨rfl, hJx3, hk3⟩
     ·gi_wp2
      exact ⟨hk3.from (by omega), hk3.two (by omega) (by omega), by rw [← List.append_assoc]; exact hJ3, hKW.trans hk3⟩
     ·gi_wp2
      exact ⟨keeps_more hk3 (by omega), rfl, by rw [← List.append_assoc]; exact hJx3⟩
    case done =>
     rintro D xs W hD hxs ⟨hJW, _⟩ hKD
     gi_wp2
     refine ⟨by simp, .inl ⟨_, _, rfl, run_takeDeferred hKD, ⟨_, results_none rfl _ _ _, ⟨⟨_, rfl⟩, .inl ⟨ys ++ xs, ?_, hJ.putObj _ hJW (by omega) hKD rfl⟩⟩⟩⟩⟩
     rw [List.map_append, HH9.out, hxs]
     rfl
    case stop =>
     rintro D c pre W hD hpre ⟨rfl, hJW⟩ hKD
     gi_wp2
     refine ⟨by simp, .inl ⟨_, _, rfl, run_takeDeferred hKD, ⟨_, results_none rfl _ _ _, ⟨⟨_, rfl⟩, .inr ⟨ys ++ pre, ?_, hJx.putObj _ hJW (by omega) hKD rfl⟩⟩⟩⟩⟩
     rw [List.map_append, HH9.out]
     obtain ⟨sfx, hsfx⟩ := hpre
     exact ⟨sfx, by rw [List.append_assoc, hsfx]; rfl⟩
  ·have hst := hashR_stop g m s (.inl (by omega))
   have HST := Aside0.mk hst
   have HH := Aside0.mk hs
   clear hst hs
   have hsm : decide ((s : Int) ≤ 15) = false := decide_eq_false (by omega)
   gi_wp2
   refine ⟨trivial, fun h => (by cases h), (round_in Fence.wide _ trivial rfl ((g : Int) + 1) (m : Int) wr).mono ?_⟩
   rintro e w9 ⟨rfl, hw9⟩
   have HW9 := Aside0.mk hw9
   clear hw9 cy cn cg
   gi_wp2
   have KF : w9.heap[wr.heap.size]? = some (.cells #[.int .i64 ((g + 1 : Nat) : Int)] 3 (0, 0)) := by rw [HW9.out]; exact blk_alloc (blk_new wr _) _
   have KN : w9.heap[wr.heap.size + 1]? = some (.cells #[.int .i64 (m : Int)] 3 (0, 0)) := by rw [HW9.out]; exact (by have := blk_new (wr.alloc (.cells #[.int .i64 ((g : Int) + 1)] 3)) (.cells #[.int .i64 (m : Int)] 3); rw [World.size_alloc] at this; exact this)
   have hb9 : Below wr.heap.size wr w9 := by rw [HW9.out]; exact below_alloc (below_alloc (Below.refl _ _) _) _
   have hJ9 : J ys w9 := by rw [HW9.out]; exact hJ.alloc _ (hJ.alloc _ hJs)
   have hK9 : KeepsBut l W2 w9 := hK.trans (KeepsBut.below hb9)
   have hz9 : w9.heap.size = wr.heap.size + 2 := by rw [HW9.out]; simp
   have hz8 := hK.size
   obtain ⟨sF, hsF⟩ : ∃ s, wr.heap.size = s := ⟨_, rfl⟩
   rw [hsF] at KF KN hz9 hz8 ⊢
   clear hb9 hsF
   refine wpIn_wide.2 ((wpIn_wide (n := 12)).1 ?_)
   have HH9 := Aside0.mk hys.out
   rw [HST.out, List.append_nil] at HH9
   refine wpIn_rangeFunc_ownH rfl (by omega) (gf := 73) (lb := #[.pointer (some ⟨sF + 1, 0, none⟩), .pointer (some ⟨sF, 0, none⟩)]) rfl trivial (enters_of Try.func73 (by kernel_rfl) rfl)
    (roundK_stops Fence.wide 11 trivial rfl (by omega) (sF + 1) sF (g + 1) m (by omega) (by omega) w9 KN KF) KeepsTwo.trans (fun W l' o o' g1 g2 _ _ k o'' hk ho => (World.putObj_heap_other (by omega)).trans ho) (Below.refl _ _) (fun _ => rfl)
    (fun pre W => J (ys ++ pre) W ∧ KeepsBut l W2 W) (fun c pre W => c = .ret ∧ Jx (ys ++ pre) W)
    (OwnFrom.and (fun q A B row g1 g2 g3 => own_less hJ (show sy ≤ w9.heap.size by omega) (ys ++ q) A B row g1 g2 g3) (own_but (by omega)))
    (fun c q A B row g1 g2 g3 => ⟨g1.1, own_less hJx (show sy ≤ w9.heap.size by omega) (ys ++ q) A B row g1.2 g2 g3⟩)
    ⟨by rw [List.append_nil]; exact hJ9, hK9⟩
    (fun x a' _ => a' = { tmps := #[.func (.yield l) #[] #[], .pointer (some ⟨Bn, 0, none⟩), .pointer (some ⟨Bg, 0, none⟩), .pointer (some ⟨sy, 0, none⟩), .int .i64 (s : Int), .int .i64 x.1, .int .i64 (s : Int), .bool false, .bool false, undef, undef, undef, .bool false, u13, u14, u15, u16, u17, u18, u19, u20, u21, u22, u23, .int .i64 (g : Int), .int .i64 ((g : Int) + 1), .int .i64 (m : Int), .func (.func 73) #[] #[.pointer (some ⟨sF + 1, 0, none⟩), .pointer (some ⟨sF, 0, none⟩)], .int .i64 x.1, undef, undef, undef, undef], defers := [] }) (fun x a' _ _ _ _ g1 _ _ => g1) ?assign ?body ?done ?stop
   case assign =>
    rintro lr pre x W K hI hA
    gi_wp2
    exact hA _ _ (KeepsFrom.refl _ _) (fun _ _ _ g1 => g1) hI rfl
   case body =>
    rintro lr pre x a' W hl' ⟨r, hr⟩ ⟨hJW, hKW⟩ rfl hlt
    have cy : W.cell? ⟨sy, 0, none⟩ = some (.func (.yield l) #[] #[]) := (blk_cell (hKW.same _ _ (by omega) hW2) 0).trans rfl
    have hy := yld_of (hY (12 - 1 - 1 - 1) (ys ++ pre) x W hJW (by
     have h_ := congrArg List.length HH9.out
     rw [List.length_map] at h_
     have h2_ : (hashR g m 0).length ≤ 5 := by
      unfold hashR
      rw [List.length_map]
      exact List.length_filter_le _ _
     rw [List.length_append]
     omega))
    obtain ⟨fn, tmps, assign, body, hyr, hR⟩ := hy
    gi_wp2
    refine (show RoundIn (Fence.wide.inRound lr) 9 Try.prog l fn tmps assign body W _ from hR).mono ?_
    rintro e W3 ⟨b, rfl, hyl⟩
    rcases hyl with ⟨rfl, hJ3, hk3⟩ | ⟨rfl, hJx3, hk3⟩
    ·gi_wp2
     exact ⟨hk3.from (by omega), hk3.two (by omega) (by omega), by rw [← List.append_assoc]; exact hJ3, hKW.trans hk3⟩
    ·gi_wp2
     exact ⟨keeps_more hk3 (by omega), rfl, by rw [← List.append_assoc]; exact hJx3⟩
   case done =>
    rintro D xs W hD hxs ⟨hJW, _⟩ hKD
    gi_wp2
    refine ⟨by simp, .inl ⟨_, _, rfl, run_takeDeferred hKD, ⟨_, results_none rfl _ _ _, ⟨⟨_, rfl⟩, .inl ⟨ys ++ xs, ?_, hJ.putObj _ hJW (by omega) hKD rfl⟩⟩⟩⟩⟩
    rw [List.map_append, HH9.out, hxs]
    rfl
   case stop =>
    rintro D c pre W hD hpre ⟨rfl, hJW⟩ hKD
    gi_wp2
    refine ⟨by simp, .inl ⟨_, _, rfl, run_takeDeferred hKD, ⟨_, results_none rfl _ _ _, ⟨⟨_, rfl⟩, .inr ⟨ys ++ pre, ?_, hJx.putObj _ hJW (by omega) hKD rfl⟩⟩⟩⟩⟩
    rw [List.map_append, HH9.out]
    obtain ⟨sfx, hsfx⟩ := hpre
    exact ⟨sfx, by rw [List.append_assoc, hsfx]; rfl⟩
theorem hash_stops (n Bn Bg g m : Nat) (hg : g ≤ 1000) (hm1 : 1 ≤ m) (hm : m ≤ 1000) (w : World) (hbn : w.heap[Bn]? = some (.cells #[.int .i64 (m : Int)] 3 (0, 0))) (hbg : w.heap[Bg]? = some (.cells #[.int .i64 (g : Int)] 3 (0, 0))) :
  SeqO n Try.prog 80 #[.pointer (some ⟨Bn, 0, none⟩), .pointer (some ⟨Bg, 0, none⟩)] (fun x : Rng m => #[Value.int .i64 x.1]) (fun ys => ys.map (·.1) = hashL g m) (fun pre => pre.map (·.1) <+: hashL g m) (m + 5) w := fun l J Jx W hW hwl hl hJ hJx hY h0 =>
 hash_in n l Bn Bg g m hg hm1 hm J Jx W hl (by have := blk_lt hbn; omega) (by have := blk_lt hbg; omega) hJ hJx hY (blk_below hbn hW) (blk_below hbg hW) h0
theorem hashed_in (F : Fence) (n : Nat) (h70 : F.fn 70) (hro : F.round = none) (a m : Int) (w : World) :
  CallsIn F n Try.prog 70 #[.int .i64 a, .int .i64 m] w fun e w' => e = .returned (.func (.func 80) #[] #[.pointer (some ⟨w.heap.size + 1, 0, none⟩), .pointer (some ⟨w.heap.size, 0, none⟩)]) ∧ w' = (w.alloc (.cells #[.int .i64 a] 3)).alloc (.cells #[.int .i64 m] 3) := by
 refine callsIn_of_wp Try.func70 rfl h70 ?_ hro
 simp only [Try.ntmps70, List.size_toArray, List.length_cons, List.length_nil, Nat.reduceAdd, Nat.reduceSub, Array.replicate_succ, Array.replicate_zero, List.push_toArray, List.append_toArray, List.nil_append, List.cons_append]
 gi_wp2
 go_ret
 exact ⟨rfl, rfl⟩
end Go.Proofs.Ytehjmmedghcndaa.PG
