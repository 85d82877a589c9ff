import Derived.Test.YtfbjeiloefocgaaYA
import Derived.Test.YtfbjeiloefocgaaPGx0
/-! Contracts of the document's answer: which whole number a part is. -/
namespace Go.Proofs.Ytfbjeiloefocgaa.PG
open Go.RowKit Go.Proofs.Ytfbjeiloefocgaa.Fl Go.Proofs.Ytfbjeiloefocgaa.PL Go.Proofs.YtfbjeiloefocgaaW.PrintWords Go.Proofs.YtfbjeiloefocgaaW.PrintLast Go.Proofs.YtfbjeiloefocgaaW.PrintMore
attribute [local go_sem] Oper.semAt_some
theorem F_inj {a b : Nat} (ha : a < 1100) (hb : b < 1100) (h : F (a : Int) = F (b : Int)) : a = b := by
  have h1 := order_is (is_F (a : Int) (by omega)) (is_F (b : Int) (by omega))
  have h2 := order_is (is_F (b : Int) (by omega)) (is_F (b : Int) (by omega))
  rw [h, h2] at h1
  have h3 : compare (b : Int) (b : Int) = .eq := Int.compare_eq_eq.2 rfl
  rw [h3] at h1
  have h4 := Int.compare_eq_eq.1 (Option.some.inj h1).symm
  omega
/-- Which number below k a float is. -/
def unF (b k : Nat) : Option Nat := (List.range k).find? (fun n => F (n : Int) == b)
theorem unF_some {b k n : Nat} (h : unF b k = some n) : F (n : Int) = b ∧ n < k := by
  have h1 := List.find?_some h
  have h2 := List.mem_of_find?_eq_some h
  exact ⟨by simpa using h1, by simpa using h2⟩
theorem unF_F (a k : Nat) (h : a < k) (hk : k ≤ 1100) : unF (F (a : Int)) k = some a := by
  cases hf : unF (F (a : Int)) k with
  | none =>
    exfalso
    have := List.find?_eq_none.1 hf a (by simpa using h)
    simp at this
  | some n =>
    obtain ⟨h1, h2⟩ := unF_some hf
    rw [F_inj (by omega) (by omega) h1]
def selvedgeref01_whole.f (a0 : Nat) : Option (Int × Bool) := (unF a0 1024).bind fun n => some ((n : Int), true)
theorem near_is : Is 13920626448202203136 (-1048576) := isB_is (by decide +kernel)
theorem order_near (n : Int) (h : -1100 < n ∧ n < 1100) : FloatKind.f64.format.order (F n) 13920626448202203136 = some .gt := by
  rw [← Int.compare_eq_gt.2 (show n > -1048576 by omega)]; exact order_is (is_F n h) near_is
theorem order_far' (n : Int) (h : -1100 < n ∧ n < 1100) : FloatKind.f64.format.order (F n) 4697254411347427328 = some .lt := by
  rw [← Int.compare_eq_lt.2 (show n < 1048576 by omega)]; exact order_is (is_F n h) far_is
theorem order_self' (n : Int) (h : -1100 < n ∧ n < 1100) : FloatKind.f64.format.order (F n) (F n) = some .eq := by
  rw [← Int.compare_eq_eq.2 (rfl : n = n)]; exact order_is (is_F n h) (is_F n h)
theorem whole_calls (n : Nat) (hn : n < 1024) (w : World) : Calls Try.prog 89 #[.float .f64 (F (n : Int))] w fun e w' => e = .returned (.tuple #[.int .i64 (n : Int), .bool true]) ∧ w' = w := by
  have o1 := order_near (n : Int) (by omega)
  have o2 := order_far' (n : Int) (by omega)
  have o3 := order_self' (n : Int) (by omega)
  have hti : floatToIntVal .f64 (F (n : Int)) .i64 = some (n : Int) := toInt_is _ (by omega)
  have hcv : ∀ W, (convert 74 3 (.float .f64 (F (n : Int)))).run Try.prog W = .ok (.int .i64 (n : Int)) W := fun W => run_convert_float_int W 74 3 .f64 .i64 _ _ (by rw [Try.underlying74]; rfl) Try.underlying3 hti
  have hF : floatOfInt .f64 (n : Int) = F (n : Int) := F_eq _
  go_enter Try.func89, Try.ntmps89
  go_wp2_with (simp only [o1, o2, o3, hcv, hF])
  go_ret2
  exact ⟨rfl, rfl⟩
theorem selvedgeref01_whole.calls (a0 : Nat) (r1 : Int) (r2 : Bool) (w : World) (h : selvedgeref01_whole.f a0 = some (r1, r2)) :
    Calls Try.prog 89 #[.float .f64 a0] w fun e w' => e = .returned (.tuple #[.int .i64 r1, .bool r2]) ∧ Drawn0 w w' := by
  obtain ⟨n, hn, hr⟩ := Option.bind_eq_some_iff.mp h
  obtain ⟨rfl, hlt⟩ := unF_some hn
  obtain ⟨rfl, rfl⟩ := Prod.mk.inj (Option.some.inj hr)
  exact (whole_calls n hlt w).mono fun _ _ ⟨h1, h2⟩ => ⟨h1, ⟨0, h2⟩⟩
end Go.Proofs.Ytfbjeiloefocgaa.PG
