/- The law 'BitsetMakes' holds: for every input (whatever can be read as arguments) the call returns true and leaves all as it was. No condition. -/
import Derived.Test.YteodjknknpdmeaaRows
import Derived.Test.YteodjknknpdmeaaRdBitsetMakes
import Derived.Test.YteodjknknpdmeaaQBitsetMakes
import Derived.WalkKit
import Derived.ProofKit
import Derived.OpenShut
import Derived.ShutString
import Derived.ChangeOld
import Derived.Below
import Derived.SizedLaws
namespace Go.Proofs.Yteodjknknpdmeaa.bitsetMakes
open Go.ChangeShapes Go.WideShapes Go.ChangeAt Go.RowKit
open Go.ChangeMaps (open_string shut_string)
open Go.Proofs.Yteodjknknpdmeaa.PG Go.Proofs.YteodjknknpdmeaaW.PrintWords Go.Proofs.YteodjknknpdmeaaW.PrintLast Go.Proofs.YteodjknknpdmeaaW.PrintMore
open Go.Proofs.Yteodjknknpdmeaa.BitsetMakesR
theorem own : ownKnob Try.prog.godebug = none := by kernel_rfl
theorem laidOut : laidOutB Try.prog = true := by kernel_rfl
set_option maxRecDepth 100000 in
theorem lifted (os : Os) (started : os.Started) (H : Type) (enc : TypeId × Value → H) :
    ReturnsInHanded {} Try.checked os 9 .any (Rows.bitsetMakesSpec.pre6 enc Try.prog Try.f9 Rows.bitsetMakesRow.domain false) (Rows.bitsetMakesSpec.post enc Try.prog Try.f9 false true false false) := by
  refine returnsInHanded_of_change_sized (C := Try.checked) own started (by kernel_rfl) Try.func9
    (ChangeSpec.witness6 (enc := enc) (C := Try.checked) false ⟨#[], #[.int .i64 0, .slice none 0 0, .agg #[.slice none 0 0, .slice none 0 0]], []⟩ 8 (by kernel_rfl) (by kernel_rfl) (by kernel_rfl) (by kernel_rfl)) ?_
  intro W base args ds gs before hval0 hW hcnd hsz0 _
  have hval : ∀ (j : Nat) t v, Try.f9.params[j]? = some t → args[j]? = some v → Value.okWide Try.prog W .any base t v := hval0
  have hW' := hW
  obtain ⟨p, q, hA0, hV, rfl, hfz, hnd⟩ := hW
  have hA : DataW.TrodAll enc Try.prog W 0 (fun _ => true) true Try.f9.params.toList args.toList ds p := hA0
  rw [Try.params9] at hA hval
  obtain ⟨v0, vs0, d0, ds0, p0, q0, hargs, rfl, rfl, h0, r0⟩ := trodAll_cons hA
  obtain ⟨v1, vs1, d1, ds1, p1, q1, rfl, rfl, rfl, h1, r1⟩ := trodAll_cons r0
  obtain ⟨v2, vs2, d2, ds2, p2, q2, rfl, rfl, rfl, h2, r2⟩ := trodAll_cons r1
  obtain ⟨rfl, rfl, rfl⟩ := trodAll_nil r2
  obtain rfl : args = #[v0, v1, v2] := by cases args; simp_all
  obtain ⟨rfl, rfl⟩ := trodVars_none hV
  obtain ⟨a0, rfl, rfl, rfl, w0⟩ := open_int Try.underlying3 (hval 0 3 v0 rfl rfl) h0
  have k1 := h1
  have lt1 : ∀ x ∈ p1, x.block < W.heap.size := by obtain ⟨m, hm⟩ := k1; exact DataW.trod_lt m _ _ _ hm
  obtain ⟨l1, A1, c1, rfl, hc1, hr1, hm1, hg1⟩ := Op.Rd.slice_arg Try.underlying41 (by kernel_rfl) (Op.Rd.int Try.underlying3) (hval 1 41 v1 rfl rfl) h1
  have k2 := h2
  have lt2 : ∀ x ∈ p2, x.block < W.heap.size := by obtain ⟨m, hm⟩ := k2; exact DataW.trod_lt m _ _ _ hm
  obtain ⟨x2, cs2, rfl, hk2, hg2⟩ := Op.Rd.array_arg Try.underlying43 rd43 (hval 2 43 v2 rfl rfl) h2
  obtain ⟨A2_0, c2_0, A2_1, c2_1, rfl, hc2_0, hr2_0, hc2_1, hr2_1⟩ := k43_open hk2
  clear hA0 hval0 hsz0
  obtain ⟨k, hp⟩ := Pure.BitsetMakes a0 l1 x2 w0 hm1 hg1 hg2
  refine (selvedgelaw02_BitsetMakes.calls (k := k) (r := true) (w := W) (a0 := a0) (l1 := l1) (A1 := A1) (c1 := c1) (P1_ := fun k_ => k_ < W.heap.size) (hs1 := Kd.V_mk hc1 (Kd.C_F (Kd.heap_int .i64) hr1)) (l2_0 := x2.f0) (A2_0 := A2_0) (c2_0 := c2_0) (P2_0_ := fun k_ => k_ < W.heap.size) (hs2_0 := Kd.V_mk hc2_0 (Kd.C_F (Kd.heap_int .u8) hr2_0)) (l2_1 := x2.f1) (A2_1 := A2_1) (c2_1 := c2_1) (P2_1_ := fun k_ => k_ < W.heap.size) (hs2_1 := Kd.V_mk hc2_1 (Kd.C_F (Kd.heap_int .u8) hr2_1)) (h := hp)).mono fun e W' ⟨he, bel0⟩ => ?_
  have bel : Below W.heap.size W W' := bel0
  subst he
  exact ⟨_, rfl, _, _, _, [], _, [], hW', trodAll_mk1 (shut_bool Try.underlying4 _), (trodAll_cons_mk (shut_int Try.underlying3 w0) (trodAll_cons_mk (Below.trod laidOut (by kernel_rfl) (of_decide_eq_true (by kernel_rfl)) k1 bel lt1) (trodAll_cons_mk (Below.trod laidOut (by kernel_rfl) (of_decide_eq_true (by kernel_rfl)) k2 bel lt2) trodAll_mk0))), rfl, bel.frame _, fun h => by cases h⟩
theorem over : Rows.bitsetMakesRow.holds Try.pinned (OpenSpec.ofChange Rows.bitsetMakesSpec) :=
  OpenClaim.holds_of_wide 9 Try.f9 rfl rfl rfl rfl rfl rfl rfl ⟨rfl, rfl, rfl, rfl, rfl⟩ rfl rfl rfl rfl rfl (by kernel_rfl) Try.func9 (by kernel_rfl)
    (of_decide_eq_true (by kernel_rfl)) (by unfold Func.isWrapper; first | (rw [if_pos (by decide +kernel)]; kernel_rfl) | (rw [if_neg (by decide +kernel)]; exact ⟨rfl, rfl⟩))
    (fun os started H enc _ => lifted os started H enc)
theorem proved : Rows.BitsetMakesSaid := over
#print axioms proved
end Go.Proofs.Yteodjknknpdmeaa.bitsetMakes
namespace Go.Proofs.Yteodjknknpdmeaa
theorem bitsetMakes_holds : Rows.BitsetMakesSaid := bitsetMakes.proved
end Go.Proofs.Yteodjknknpdmeaa
