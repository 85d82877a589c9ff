/- The law 'CylCounts' holds: for every input (whatever can be read as arguments) the call returns true and leaves all as it was. No condition. -/
import Derived.Test.YtehjmmedghcndaaRows
import Derived.Test.YtehjmmedghcndaaRdCylCounts
import Derived.Test.YtehjmmedghcndaaJ51
import Derived.WalkKit
import Derived.ProofKit
import Derived.OpenShut
import Derived.ShutString
import Derived.ChangeOld
import Derived.Below
import Derived.SizedLaws
namespace Go.Proofs.Ytehjmmedghcndaa.cylCounts
open Go.ChangeShapes Go.WideShapes Go.ChangeAt Go.RowKit
open Go.ChangeMaps (open_string shut_string)
open Go.Proofs.Ytehjmmedghcndaa.PG Go.Proofs.YtehjmmedghcndaaW.PrintWords Go.Proofs.YtehjmmedghcndaaW.PrintLast Go.Proofs.YtehjmmedghcndaaW.PrintMore
open Go.Proofs.Ytehjmmedghcndaa.CylCountsR
theorem own : ownKnob Try.prog.godebug = none := by kernel_rfl
theorem laidOut : laidOutB Try.prog = true := by kernel_rfl
set_option maxRecDepth 100000 in
theorem lifted (os : Os) (started : os.Started) (H : Type) (enc : TypeId × Value → H) :
  ReturnsInHanded {} Try.checked os 6 .any (Rows.cylCountsSpec.pre6 enc Try.prog Try.f6 Rows.cylCountsRow.domain false) (Rows.cylCountsSpec.post enc Try.prog Try.f6 false true false false) := by
 refine returnsInHanded_of_change_sized (C := Try.checked) own started (by kernel_rfl) Try.func6
  (ChangeSpec.witness6 (enc := enc) (C := Try.checked) false ⟨#[], #[.slice none 0 0, .agg #[.int .i64 0, .int .i64 0, .int .i64 0, .int .i64 0, .int .i64 0, .slice none 0 0, .slice none 0 0, .int .i64 0, .int .i64 0, .int .i64 0, .int .i64 0, .int .i64 0, .slice none 0 0, .slice none 0 0]], []⟩ 8 (by kernel_rfl) (by kernel_rfl) (by kernel_rfl) (by kernel_rfl)) ?_
 intro W base args ds gs before hval0 hW hcnd hsz0 _
 have hval : ∀ (j : Nat) t v, Try.f6.params[j]? = some t → args[j]? = some v → Value.okWide Try.prog W .any base t v := hval0
 have hW' := hW
 obtain ⟨p, q, hA0, hV, rfl, hfz, hnd⟩ := hW
 have hA : DataW.TrodAll enc Try.prog W 0 (fun _ => true) true Try.f6.params.toList args.toList ds p := hA0
 rw [Try.params6] at hA hval
 obtain ⟨v0, vs0, d0, ds0, p0, q0, hargs, rfl, rfl, h0, r0⟩ := trodAll_cons hA
 obtain ⟨v1, vs1, d1, ds1, p1, q1, rfl, rfl, rfl, h1, r1⟩ := trodAll_cons r0
 obtain ⟨rfl, rfl, rfl⟩ := trodAll_nil r1
 obtain rfl : args = #[v0, v1] := by cases args; simp_all
 obtain ⟨rfl, rfl⟩ := trodVars_none hV
 have k0 := h0
 have lt0 : ∀ x ∈ p0, x.block < W.heap.size := by obtain ⟨m, hm⟩ := k0; exact DataW.trod_lt m _ _ _ hm
 obtain ⟨l0, A0, c0, rfl, hc0, hr0, hm0, hg0⟩ := Op.Rd.slice_arg Try.underlying22 (by kernel_rfl) rd42 (hval 0 22 v0 rfl rfl) h0
 have k1 := h1
 have lt1 : ∀ x ∈ p1, x.block < W.heap.size := by obtain ⟨m, hm⟩ := k1; exact DataW.trod_lt m _ _ _ hm
 obtain ⟨x1, cs1, rfl, hk1, hg1⟩ := Op.Rd.array_arg Try.underlying46 rd46 (hval 1 46 v1 rfl rfl) h1
 obtain ⟨A1_5, c1_5, A1_6, c1_6, A1_12, c1_12, A1_13, c1_13, rfl, hc1_5, hr1_5, hc1_6, hr1_6, hc1_12, hr1_12, hc1_13, hr1_13⟩ := k46_open hk1
 clear hA0 hval0 hsz0
 obtain ⟨k, hp⟩ := Pure.CylCounts l0 x1 hm0 hg0 hg1
 refine (selvedgelaw18_CylCounts.calls (k := k) (r := true) (w := W) (l0 := l0) (A0 := A0) (c0 := c0) (hr0 := hr0) (hc0 := hc0) (a1_0 := x1.f0.f0) (a1_1 := x1.f0.f1) (a1_2 := x1.f0.f2) (a1_3 := x1.f0.f3) (a1_4 := x1.f0.f4) (l1_5 := x1.f0.f5) (A1_5 := A1_5) (c1_5 := c1_5) (hr1_5 := hr1_5) (hc1_5 := hc1_5) (l1_6 := x1.f0.f6) (A1_6 := A1_6) (c1_6 := c1_6) (hr1_6 := hr1_6) (hc1_6 := hc1_6) (a1_7 := x1.f1.f0) (a1_8 := x1.f1.f1) (a1_9 := x1.f1.f2) (a1_10 := x1.f1.f3) (a1_11 := x1.f1.f4) (l1_12 := x1.f1.f5) (A1_12 := A1_12) (c1_12 := c1_12) (hr1_12 := hr1_12) (hc1_12 := hc1_12) (l1_13 := x1.f1.f6) (A1_13 := A1_13) (c1_13 := c1_13) (hr1_13 := hr1_13) (hc1_13 := hc1_13) (h := hp)).mono fun e W' ⟨he, bel0⟩ => ?_
 have bel : Below W.heap.size W W' := bel0
 subst he
 exact ⟨_, rfl, _, _, _, [], _, [], hW', trodAll_mk1 (shut_bool Try.underlying4 _), (trodAll_cons_mk (Below.trod laidOut (by kernel_rfl) (of_decide_eq_true (by kernel_rfl)) k0 bel lt0) (trodAll_cons_mk (Below.trod laidOut (by kernel_rfl) (of_decide_eq_true (by kernel_rfl)) k1 bel lt1) trodAll_mk0)), rfl, bel.frame _, fun h => by cases h⟩
theorem over : Rows.cylCountsRow.holds Try.pinned (OpenSpec.ofChange Rows.cylCountsSpec) :=
 OpenClaim.holds_of_wide 6 Try.f6 rfl rfl rfl rfl rfl rfl rfl ⟨rfl, rfl, rfl, rfl, rfl⟩ rfl rfl rfl rfl rfl (by kernel_rfl) Try.func6 (by kernel_rfl)
  (of_decide_eq_true (by kernel_rfl)) (by unfold Func.isWrapper; first | (rw [if_pos (by decide +kernel)]; kernel_rfl) | (rw [if_neg (by decide +kernel)]; exact ⟨rfl, rfl⟩))
  (fun os started H enc _ => lifted os started H enc)
theorem proved : Rows.CylCountsSaid := over
#print axioms proved
end Go.Proofs.Ytehjmmedghcndaa.cylCounts
namespace Go.Proofs.Ytehjmmedghcndaa
theorem cylCounts_holds : Rows.CylCountsSaid := cylCounts.proved
end Go.Proofs.Ytehjmmedghcndaa
