import Derived.Test.YtlmnagbfmkaglaaC2
/-! Contracts of slices.Grow, slices.Concat over frames. -/
namespace Go.Proofs.Ytlmnagbfmkaglaa.CC
open Go.RowKit Go.Proofs.Ytlmnagbfmkaglaa.PG Go.Proofs.YtlmnagbfmkaglaaW.PrintWords Go.Proofs.YtlmnagbfmkaglaaW.PrintLast Go.Proofs.YtlmnagbfmkaglaaW.PrintMore
attribute [local go_sem] Oper.semAt_some
theorem info59 : (Try.prog.info? 59).map (fun i => (i.zero, i.size, i.bytes)) = some (some (.agg #[.int .i64 0, .int .i64 0, .bool false, .bool false]), 4, 24) := by kernel_rfl
set_option maxHeartbeats 1000000 in
theorem Grow_calls (n : Int) (h0 : 0 ≤ n) (hn : n < 10000) (w : World) : Calls Try.prog 45 #[.slice none 0 0, .int .i64 n] w fun e w' => (∃ v, e = .returned v ∧ Kd.R k59 59 w' w.heap.size (fun _ => True) v []) ∧ Below w.heap.size w w' := by
  have HB := Aside0.mk (Below.refl w.heap.size w)
  have d1 : decide (n < 0) = false := by simp; omega
  by_cases h1 : n = 0
  · subst h1
    go_enter Try.func45, Try.ntmps45
    go_wp2
    go_ret
    exact ⟨⟨_, rfl, Kd.R_nil _ _ _ _ _⟩, Below.refl _ _⟩
  · have d2 : decide (0 < n) = true := by simp; omega
    have ew : wrap64 n = n := by unfold wrap64; omega
    go_enter Try.func45, Try.ntmps45
    go_wp2_with (first | ((with_reducible refine gate_builtin (b := .append) (xs := #[.tmp 20, .tmp 21]) rfl ?_); at_builtin; refine Kd.R_append_zeros k59 (w0 := w) w.heap.size rfl (.tmp 20) (.tmp 21) 53 3 59 (.agg #[.int .i64 0, .int .i64 0, .bool false, .bool false]) 24 rfl Try.underlying53 Try.underlying3 info59 rfl (by decide) (by omega) (.slice none 0 0) [] z59 n (fun _ => True) rfl rfl (k59_mkM _ _ _ z59) (fun _ _ => trivial) (Kd.R_nil _ _ _ _ _) (by omega) HB.out (Nat.le_refl _) (by simp; omega) ?_; intro v2 w2 ho hb hg hat; have HO := Aside0.mk ho; have HB2 := Aside0.mk hb; clear hg hat hb; obtain ⟨gg, cap, eg, -⟩ := Kd.R_form ho (by simp; omega); clear ho; subst eg; have hcp : (0 : Int) ≤ (cap : Int) := by omega))
    go_ret
    exact ⟨⟨_, rfl, by simpa using Kd.R_take HO.out (Nat.zero_le _)⟩, HB2.out⟩
def pre (l1 l2 : List S59) (i : Nat) : List S59 := if i = 0 then [] else if i = 1 then l1 else l1 ++ l2
set_option maxHeartbeats 2000000 in
set_option maxRecDepth 100000 in
theorem Concat_calls (gl cl : Nat) (A1 A2 : Option Addr) (c1 c2 : Nat) (l1 l2 : List S59) (w : World) (q1 : w.cell? ⟨gl, 0, none⟩ = some (.slice A1 l1.length c1)) (q2 : w.cell? ⟨gl, 1, none⟩ = some (.slice A2 l2.length c2)) (h1 : Kd.C k59 w A1 l1.length l1) (h2 : Kd.C k59 w A2 l2.length l2) (hn : l1.length + l2.length < 10000) :
    Calls Try.prog 42 #[.slice (some ⟨gl, 0, none⟩) 2 cl] w fun e w' => (∃ v, e = .returned v ∧ Kd.R k59 59 w' w.heap.size (fun _ => True) v (l1 ++ l2)) ∧ Below w.heap.size w w' := by
  have H1 := Aside0.mk h1
  have H2 := Aside0.mk h2
  have Q1 := Aside0.mk q1
  have Q2 := Aside0.mk q2
  have HN := Aside0.mk hn
  clear h1 h2 q1 q2 hn
  go_enter Try.func42, Try.ntmps42
  go_wp2
  go_loopg [3, 11] 2 (fun kq v3 v11 w' => ∃ i : Nat, i + kq = 2 ∧ v11 = .int .i64 (i : Int) ∧ v3 = .int .i64 ((pre l1 l2 i).length : Int) ∧ w' = w)
  case atStart => exact ⟨0, rfl, rfl, rfl, rfl⟩
  case round =>
    obtain ⟨i, hi, rfl, rfl, hw⟩ := hrel
    have hw := hw.symm
    subst hw
    cases gk with
    | succ k1 =>
      rcases (show i = 0 ∨ i = 1 by omega) with rfl | rfl
      · have q1 := Q1.out
        have ew : wrap64 (((pre l1 l2 0).length : Int) + (l1.length : Int)) = (l1.length : Int) := by simp [pre]; unfold wrap64; have := HN.out; omega
        have d1 : decide ((l1.length : Int) < 0) = false := by simp
        go_wp2
        go_roundg k1
        case rel => exact ⟨1, by omega, rfl, by simp [pre], rfl⟩
        all_goals omega
      · have q2 := Q2.out
        have ew : wrap64 (((pre l1 l2 1).length : Int) + (l2.length : Int)) = ((l1 ++ l2).length : Int) := by simp [pre]; unfold wrap64; have := HN.out; omega
        have d1 : decide (((l1 ++ l2).length : Int) < 0) = false := by simp; omega
        go_wp2
        go_roundg k1
        case rel => exact ⟨2, by omega, rfl, by simp [pre], rfl⟩
        all_goals omega
    | zero =>
      obtain rfl : i = 2 := by omega
      obtain ⟨S, hS⟩ : ∃ S : Int, ((pre l1 l2 2).length : Int) = S := ⟨_, rfl⟩
      have hS0 : 0 ≤ S := by omega
      have hS1 : S < 10000 := by have := HN.out; simp [pre] at hS; omega
      rw [hS]
      clear hS
      go_wp2_with (go_at_call 45; with_reducible refine (Grow_calls S hS0 hS1 _).mono ?_; rintro e w3 ⟨⟨v3, rfl, ho⟩, hb⟩; have HO := Aside0.mk ho; have HB := Aside0.mk hb; clear ho hb)
      go_loopg [6, 27] 2 (fun kq v6 v27 w' => ∃ i : Nat, i + kq = 2 ∧ v27 = .int .i64 (i : Int) ∧ Aside0 (Kd.R k59 59 w' w.heap.size (fun _ => True) v6 (pre l1 l2 i)) ∧ Aside0 (Below w.heap.size w w'))
      case atStart => exact ⟨0, rfl, rfl, HO, HB⟩
      case round =>
        obtain ⟨i, hi, rfl, hR, hB⟩ := hrel
        cases gk with
        | succ k1 =>
          rcases (show i = 0 ∨ i = 1 by omega) with rfl | rfl
          · have q1 := pw_cell_below hB.out Q1.out
            go_wp2_with (first | ((with_reducible refine gate_builtin (b := .append) (xs := #[.tmp 31, .tmp 32]) rfl ?_); at_builtin; refine Kd.R_append_rows k59 (w0 := w) w.heap.size rfl (.tmp 31) (.tmp 32) 53 59 (.agg #[.int .i64 0, .int .i64 0, .bool false, .bool false]) 24 rfl Try.underlying53 info59 rfl (by decide) (by omega) _ (pre l1 l2 0) l1 A1 _ c1 (fun _ => True) (fun _ => False) rfl rfl hR.out (Kd.C_below H1.out hB.out) (fun x cs h => by obtain rfl := k59_open h; exact k59_mkM _ _ _ x) (fun _ h => h.elim) (fun _ _ => trivial) hB.out hB.out.size ?aL ?_; (case aL => have := HN.out; simp [pre]; omega); intro v2 w2 ho hb hg hat; have HO2 := Aside0.mk ho; have HB2 := Aside0.mk hb; clear hg hat ho hb))
            go_roundg k1
            case rel => exact ⟨1, by omega, rfl, ⟨by simpa [pre] using HO2.out⟩, HB2⟩
            all_goals omega
          · have q2 := pw_cell_below hB.out Q2.out
            go_wp2_with (first | ((with_reducible refine gate_builtin (b := .append) (xs := #[.tmp 31, .tmp 32]) rfl ?_); at_builtin; refine Kd.R_append_rows k59 (w0 := w) w.heap.size rfl (.tmp 31) (.tmp 32) 53 59 (.agg #[.int .i64 0, .int .i64 0, .bool false, .bool false]) 24 rfl Try.underlying53 info59 rfl (by decide) (by omega) _ (pre l1 l2 1) l2 A2 _ c2 (fun _ => True) (fun _ => False) rfl rfl hR.out (Kd.C_below H2.out hB.out) (fun x cs h => by obtain rfl := k59_open h; exact k59_mkM _ _ _ x) (fun _ h => h.elim) (fun _ _ => trivial) hB.out hB.out.size ?aL ?_; (case aL => have := HN.out; simp [pre]; omega); intro v2 w2 ho hb hg hat; have HO2 := Aside0.mk ho; have HB2 := Aside0.mk hb; clear hg hat ho hb))
            go_roundg k1
            case rel => exact ⟨2, by omega, rfl, ⟨by simpa [pre] using HO2.out⟩, HB2⟩
            all_goals omega
        | zero =>
          obtain rfl : i = 2 := by omega
          go_wp2
          go_ret
          exact ⟨⟨_, rfl, by simpa [pre] using hR.out⟩, hB.out⟩
end Go.Proofs.Ytlmnagbfmkaglaa.CC
