import Derived.Test.YthembklejaabiaaProg
import Derived.Below
import Derived.Deep.Draws
import Derived.Deep.AppendLies
import Derived.Maps.AppendAt
import Derived.OwnWalk
import Derived.Laws.BytesArg
import Derived.Laws.MakeOwn
import Derived.Laws.OwnMore
import Derived.Deep.OwnRows
import Derived.Tactics
import Derived.Lib.ConvBytes
import Derived.Laws.Slices
import Derived.WalkKit
import Derived.KernelRfl
import Derived.RowKit3
import Derived.Deep.LoopGhost
import Derived.Deep.QuietTactic
import Derived.BigQuiet
import Derived.WideLaws
import Derived.Deep.DeepCutAuto
import Derived.Deep.CutBlock
import Derived.Deep.RegionHeld3
import Derived.Laws.Rows
import Derived.Lib.AppendStr
import Derived.ArgAppend
import Derived.Laws.IdiomCopy
import Derived.OrdersHeld
import Derived.Laws.BitsLemmas
import Derived.RowKit
import Derived.Laws.Externs
import Derived.WalkLawsBesides
import Derived.Test.YthembklejaabiaaFl
/-! Contracts of small functions of Go's library: floats that are small whole numbers. -/
namespace Go.Proofs.Ythembklejaabiaa.PL
open Go.RowKit Go.Proofs.Ythembklejaabiaa.Fl
attribute [local go_sem] Oper.semAt_some

theorem call43 (b : Nat) (w : World) : (callFunc 43 #[.float .f64 b]).run Try.prog w = .ok (.value (.int .u64 b)) w :=
  (run_callFunc_extern (P := Try.prog) (f := 43) Try.func43 (by kernel_rfl) (by kernel_rfl) (by kernel_rfl) (e := Extern.MathFloatBits.float64bits) (by kernel_rfl) _ w).trans rfl
theorem call42 (b : Nat) (w : World) : (callFunc 42 #[.int .u64 (b : Int)]).run Try.prog w = .ok (.value (.float .f64 b)) w :=
  (run_callFunc_extern (P := Try.prog) (f := 42) Try.func42 (by kernel_rfl) (by kernel_rfl) (by kernel_rfl) (e := Extern.MathFloatBits.float64frombits) (by kernel_rfl) _ w).trans rfl
theorem trunc_run (n : Nat) (h : n < 1100) (w : World) : (Extern.MathFloor.toIntegral "math.archTrunc" .zero #[.float .f64 (F (n : Int))]).run Try.prog w = .ok (.float .f64 (F (n : Int))) w := by
  have hw := whole_nat n h
  unfold wholeB at hw
  generalize F (n : Int) = b at hw ⊢
  split at hw
  · next s m p hr =>
    have hr' : FloatKind.f64.decode b = .number s m p := hr
    have hb : FloatKind.f64.encode ((Ieee.Datum.number s m p).integral .zero) = b := by
      have : Ieee.double.write ((Ieee.Datum.number s m p).integral .zero) = b := by simpa using hw
      exact this
    have key : Extern.MathFloor.toIntegral "math.archTrunc" .zero #[.float .f64 b] = pure (.float .f64 (FloatKind.f64.encode ((Ieee.Datum.number s m p).integral .zero))) := by
      delta Extern.MathFloor.toIntegral
      conv => lhs; whnf
      first | (rw [hr']; done) | (simp only [hr']; done) | (trace_state; fail)
    rw [key, hb]
    rfl
  · exact absurd hw (by simp)
theorem call50 (n : Nat) (h : n < 1100) (w : World) : (callFunc 50 #[.float .f64 (F (n : Int))]).run Try.prog w = .ok (.value (.float .f64 (F (n : Int)))) w := by
  rw [run_callFunc_extern (P := Try.prog) (f := 50) Try.func50 (by kernel_rfl) (by kernel_rfl) (by kernel_rfl) (e := Extern.MathFloor.toIntegral "math.archTrunc" .zero) (by kernel_rfl) _ w, trunc_run n h w]
  rfl
theorem abs_calls (n : Int) (h : -1100 < n ∧ n < 1100) (w : World) : Calls Try.prog 30 #[.float .f64 (F n)] w fun e w' => e = .returned (.float .f64 (F (n.natAbs : Int))) ∧ w' = w := by
  have ha := abs_is n h
  have h43 := call43 (F n)
  have h42 := call42 (F (n.natAbs : Int))
  go_enter Try.func30, Try.ntmps30
  go_wp2_with (simp only [h43, h42, ha])
  go_ret
  exact ⟨rfl, rfl⟩
theorem nan_calls (n : Int) (h : -1100 < n ∧ n < 1100) (w : World) : Calls Try.prog 40 #[.float .f64 (F n)] w fun e w' => e = .returned (.bool false) ∧ w' = w := by
  have ho : FloatKind.f64.format.order (F n) (F n) = some .eq := by rw [← Int.compare_eq_eq.2 (rfl : n = n)]; exact order_is (is_F n h) (is_F n h)
  go_enter Try.func40, Try.ntmps40
  go_wp2
  go_ret
  exact ⟨by simp [ho], rfl⟩
theorem trunc_calls (n : Nat) (h : n < 1100) (w : World) : Calls Try.prog 41 #[.float .f64 (F (n : Int))] w fun e w' => e = .returned (.float .f64 (F (n : Int))) ∧ w' = w := by
  have h50 := call50 n h
  go_enter Try.func41, Try.ntmps41
  go_wp2_with (simp only [h50])
  go_ret
  exact ⟨rfl, rfl⟩
end Go.Proofs.Ythembklejaabiaa.PL
