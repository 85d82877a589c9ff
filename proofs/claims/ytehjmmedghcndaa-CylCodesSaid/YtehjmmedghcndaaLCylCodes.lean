/- The law 'CylCodes' holds: for every input (whatever can be read as arguments) the call returns true and leaves all as it was. No condition. -/
import Derived.Test.YtehjmmedghcndaaRows
import Derived.Test.YtehjmmedghcndaaRdCylCodes
import Derived.Test.YtehjmmedghcndaaJ51
import Derived.WalkKit
import Derived.ProofKit
import Derived.OpenShut
import Derived.ShutString
import Derived.ChangeOld
import Derived.Below
import Derived.SizedLaws
namespace Go.Proofs.Ytehjmmedghcndaa.cylCodes
open Go.ChangeShapes Go.WideShapes Go.ChangeAt Go.RowKit
open Go.ChangeMaps (open_string shut_string)
open Go.Proofs.Ytehjmmedghcndaa.PG Go.Proofs.YtehjmmedghcndaaW.PrintWords Go.Proofs.YtehjmmedghcndaaW.PrintLast Go.Proofs.YtehjmmedghcndaaW.PrintMore
open Go.Proofs.Ytehjmmedghcndaa.CylCodesR
theorem own : ownKnob Try.prog.godebug = none := by kernel_rfl
theorem laidOut : laidOutB Try.prog = true := by kernel_rfl
set_option maxRecDepth 100000 in
theorem lifted (os : Os) (started : os.Started) (H : Type) (enc : TypeId × Value → H) :
  ReturnsInHanded {} Try.checked os 7 .any (Rows.cylCodesSpec.pre6 enc Try.prog Try.f7 Rows.cylCodesRow.domain false) (Rows.cylCodesSpec.post enc Try.prog Try.f7 false true false false) := by
 refine returnsInHanded_of_change_sized (C := Try.checked) own started (by kernel_rfl) Try.func7
  (ChangeSpec.witness6 (enc := enc) (C := Try.checked) false ⟨#[], #[.agg #[.int .i64 0, .int .i64 0, .int .i64 0, .int .i64 0, .int .i64 0, .slice none 0 0, .slice none 0 0], .slice none 0 0, .agg #[.int .i64 0, .int .i64 0]], []⟩ 8 (by kernel_rfl) (by kernel_rfl) (by kernel_rfl) (by kernel_rfl)) ?_
 intro W base args ds gs before hval0 hW hcnd hsz0 _
 have hval : ∀ (j : Nat) t v, Try.f7.params[j]? = some t → args[j]? = some v → Value.okWide Try.prog W .any base t v := hval0
 have hW' := hW
 obtain ⟨p, q, hA0, hV, rfl, hfz, hnd⟩ := hW
 have hA : DataW.TrodAll enc Try.prog W 0 (fun _ => true) true Try.f7.params.toList args.toList ds p := hA0
 rw [Try.params7] at hA hval
 obtain ⟨v0, vs0, d0, ds0, p0, q0, hargs, rfl, rfl, h0, r0⟩ := trodAll_cons hA
 obtain ⟨v1, vs1, d1, ds1, p1, q1, rfl, rfl, rfl, h1, r1⟩ := trodAll_cons r0
 obtain ⟨v2, vs2, d2, ds2, p2, q2, rfl, rfl, rfl, h2, r2⟩ := trodAll_cons r1
 obtain ⟨rfl, rfl, rfl⟩ := trodAll_nil r2
 obtain rfl : args = #[v0, v1, v2] := by cases args; simp_all
 obtain ⟨rfl, rfl⟩ := trodVars_none hV
 have k0 := h0
 have lt0 : ∀ x ∈ p0, x.block < W.heap.size := by obtain ⟨m, hm⟩ := k0; exact DataW.trod_lt m _ _ _ hm
 obtain ⟨x0, cs0, rfl, hk0, hg0⟩ := Op.Rd.struct_arg Try.underlying42 rd42 (hval 0 42 v0 rfl rfl) h0
 obtain ⟨A0_5, c0_5, A0_6, c0_6, rfl, hc0_5, hr0_5, hc0_6, hr0_6⟩ := k42_open hk0
 have k1 := h1
 have lt1 : ∀ x ∈ p1, x.block < W.heap.size := by obtain ⟨m, hm⟩ := k1; exact DataW.trod_lt m _ _ _ hm
 obtain ⟨l1, A1, c1, rfl, hc1, hr1, hm1, hg1⟩ := Op.Rd.slice_arg Try.underlying35 (by kernel_rfl) (Op.Rd.int Try.underlying5) (hval 1 35 v1 rfl rfl) h1
 have k2 := h2
 have lt2 : ∀ x ∈ p2, x.block < W.heap.size := by obtain ⟨m, hm⟩ := k2; exact DataW.trod_lt m _ _ _ hm
 obtain ⟨x2, cs2, rfl, hk2, hg2⟩ := Op.Rd.array_arg Try.underlying51 rd51 (hval 2 51 v2 rfl rfl) h2
 obtain rfl := k51_open hk2
 clear hA0 hval0 hsz0
 obtain ⟨k, hp⟩ := Pure.CylCodes x0 l1 x2 hg0 hm1 hg1 hg2
 refine (selvedgelaw18_CylCodes.calls (k := k) (r := true) (w := W) (a0_0 := x0.f0) (a0_1 := x0.f1) (a0_2 := x0.f2) (a0_3 := x0.f3) (a0_4 := x0.f4) (l0_5 := x0.f5) (A0_5 := A0_5) (c0_5 := c0_5) (hr0_5 := hr0_5) (hc0_5 := hc0_5) (l0_6 := x0.f6) (A0_6 := A0_6) (c0_6 := c0_6) (hr0_6 := hr0_6) (hc0_6 := hc0_6) (l1 := l1) (A1 := A1) (c1 := c1) (P1_ := fun k_ => k_ < W.heap.size) (hs1 := Kd.V_mk hc1 (Kd.C_F (Kd.heap_int .u8) hr1)) (a2_0 := x2.f0) (a2_1 := x2.f1) (h := hp)).mono fun e W' ⟨he, bel0⟩ => ?_
 have bel : Below W.heap.size W W' := bel0
 subst he
 exact ⟨_, rfl, _, _, _, [], _, [], hW', trodAll_mk1 (shut_bool Try.underlying4 _), (trodAll_cons_mk (Below.trod laidOut (by kernel_rfl) (of_decide_eq_true (by kernel_rfl)) k0 bel lt0) (trodAll_cons_mk (Below.trod laidOut (by kernel_rfl) (of_decide_eq_true (by kernel_rfl)) k1 bel lt1) (trodAll_cons_mk (Below.trod laidOut (by kernel_rfl) (of_decide_eq_true (by kernel_rfl)) k2 bel lt2) trodAll_mk0))), rfl, bel.frame _, fun h => by cases h⟩
theorem over : Rows.cylCodesRow.holds Try.pinned (OpenSpec.ofChange Rows.cylCodesSpec) :=
 OpenClaim.holds_of_wide 7 Try.f7 rfl rfl rfl rfl rfl rfl rfl ⟨rfl, rfl, rfl, rfl, rfl⟩ rfl rfl rfl rfl rfl (by kernel_rfl) Try.func7 (by kernel_rfl)
  (of_decide_eq_true (by kernel_rfl)) (by unfold Func.isWrapper; first | (rw [if_pos (by decide +kernel)]; kernel_rfl) | (rw [if_neg (by decide +kernel)]; exact ⟨rfl, rfl⟩))
  (fun os started H enc _ => lifted os started H enc)
theorem proved : Rows.CylCodesSaid := over
#print axioms proved
end Go.Proofs.Ytehjmmedghcndaa.cylCodes
namespace Go.Proofs.Ytehjmmedghcndaa
theorem cylCodes_holds : Rows.CylCodesSaid := cylCodes.proved
end Go.Proofs.Ytehjmmedghcndaa
