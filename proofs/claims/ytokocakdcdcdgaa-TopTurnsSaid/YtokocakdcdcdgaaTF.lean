import Derived.Test.YtokocakdcdcdgaaTB
import Derived.Test.YtokocakdcdcdgaaTC
import Derived.RangeFuncNested
import Derived.RangeFuncBound
import Derived.RangeFuncCalls
import Derived.RangeFuncLeaves
import Derived.RangeFuncBox
import Derived.Shelf.Abstract
import Derived.Shelf.RegionOpen
import Derived.WalkKit
import Derived.WalkSpells
import Derived.Lib.Hide
import Derived.OwnWalkIn
import Derived.TacticsInMore
import Derived.LoopNIn
import Derived.LoopIn
import Derived.Maps.AppendAt
import Derived.Sort.QuietIn
import Derived.BigRegionIn
import Derived.WalkMore
/-! marks; graph.Closed. -/
namespace Go.Proofs.Ytokocakdcdcdgaa.PG
open Go.RowKit Go.Proofs.YtokocakdcdcdgaaW.PrintWords Go.Proofs.YtokocakdcdcdgaaW.PrintLast Go.Proofs.YtokocakdcdcdgaaW.PrintMore
open Go.Shelf
attribute [local go_sem] Oper.semAt_some

/-- What is marked. -/
def mkM (s : List Int) (n : Nat) : List Bool := s.foldl (fun m x => m.set x.toNat true) (List.replicate n false)
theorem marks_l0 (s : List Int) (n : Nat) (hs : ∀ x ∈ s, 0 ≤ x ∧ x < (n : Int)) (hl : s.length ≤ 1000) : ∀ (q j : Nat) (m : List Bool), j + q = s.length → m.length = n → PA.graph_marks.l0 (q + 1) (n : Int) m true s (s.length : Int) (j : Int) = some ((s.drop j).foldl (fun m x => m.set x.toNat true) m, true)
  | 0, j, m, h, hm => by
    unfold PA.graph_marks.l0
    rw [if_neg (by omega)]
    obtain rfl : j = s.length := by omega
    rw [List.drop_length]
    rfl
  | q + 1, j, m, h, hm => by
    have hj : j < s.length := by omega
    have hw : wrap64 ((j : Int) + 1) = ((j + 1 : Nat) : Int) := by unfold wrap64; omega
    have hx : rd s (j : Int) = s[j] := by simp [rd, List.getD_eq_getElem?_getD, hj]
    have hb := hs s[j] (List.getElem_mem hj)
    rw [PA.graph_marks.l0, if_pos (by omega), if_pos (by omega), if_pos (by omega), hx, if_neg (by omega), if_neg (by omega), if_pos (by omega), if_pos (by omega), hw, marks_l0 s n hs hl q (j + 1) _ (by omega) (by rw [List.length_set]; exact hm), List.drop_eq_getElem_cons hj]
    rfl
theorem marks_is (s : List Int) (n : Nat) (hs : ∀ x ∈ s, 0 ≤ x ∧ x < (n : Int)) (hl : s.length ≤ 1000) (hn : n ≤ 1000) : PA.graph_marks.f (s.length + 1) s (n : Int) = some (mkM s n, true) := by
  unfold PA.graph_marks.f
  rw [if_pos (by omega), if_pos (by omega)]
  exact marks_l0 s n hs hl s.length 0 _ (by omega) (by simp)
theorem fold_len : ∀ (s : List Int) (m : List Bool), (s.foldl (fun m x => m.set x.toNat true) m).length = m.length
  | [], _ => rfl
  | x :: t, m => by rw [List.foldl_cons, fold_len t, List.length_set]
theorem mkM_len (s : List Int) (n : Nat) : (mkM s n).length = n := by
  unfold mkM
  rw [fold_len, List.length_replicate]
theorem fold_get : ∀ (s : List Int) (m : List Bool) (i : Nat), (∀ x ∈ s, 0 ≤ x) → i < m.length → (s.foldl (fun m x => m.set x.toNat true) m).getD i false = (m.getD i false || s.contains (i : Int))
  | [], m, i, hs, hi => by simp
  | x :: t, m, i, hs, hi => by
    rw [List.foldl_cons, fold_get t _ i (fun y hy => hs y (List.mem_cons_of_mem _ hy)) (by rw [List.length_set]; exact hi)]
    have hx := hs x (by simp)
    by_cases h : x.toNat = i
    · have e : x = (i : Int) := by omega
      simp [List.getD_eq_getElem?_getD, hi, e]
    · have e : ¬ (i : Int) = x := by omega
      simp [List.getD_eq_getElem?_getD, List.getElem?_set_ne h, e]
theorem mkM_get (s : List Int) (n i : Nat) (hs : ∀ x ∈ s, 0 ≤ x) (hi : i < n) : (mkM s n).getD i false = s.contains (i : Int) := by
  unfold mkM
  rw [fold_get s _ i hs (by rw [List.length_replicate]; exact hi)]
  simp [List.getD_eq_getElem?_getD, hi]
theorem onesF_mem : ∀ (m : List Bool) (k : Nat) (x : Int), x ∈ onesF k m → ∃ i, i < m.length ∧ x = ((k + i : Nat) : Int) ∧ m.getD i false = true
  | [], k, x, h => by simp [onesF] at h
  | b :: t, k, x, h => by
    unfold onesF at h
    have rest : x ∈ onesF (k + 1) t → ∃ i, i < (b :: t).length ∧ x = ((k + i : Nat) : Int) ∧ (b :: t).getD i false = true := fun h => by
      obtain ⟨i, h1, h2, h3⟩ := onesF_mem t (k + 1) x h
      exact ⟨i + 1, by simp; omega, by rw [h2]; congr 1; omega, by simpa using h3⟩
    by_cases hb : b = true
    · rw [if_pos hb] at h
      rcases List.mem_cons.1 h with h | h
      · exact ⟨0, by simp, by rw [h]; rfl, by simpa using hb⟩
      · exact rest h
    · rw [if_neg hb] at h
      exact rest h
theorem ones_mem {m : List Bool} {x : Int} (h : x ∈ onesOf m) : ∃ i, i < m.length ∧ x = (i : Int) ∧ m.getD i false = true := by
  obtain ⟨i, h1, h2, h3⟩ := onesF_mem m 0 x h
  exact ⟨i, h1, by rw [h2]; simp, h3⟩
/-- A set that has all that must come ahead of what it has. -/
def ClosedS (l : List (List Int)) (s : List Int) : Prop := Dom l ∧ s.length ≤ 100 ∧ ∀ x ∈ s, 0 ≤ x ∧ x < (l.length : Int) ∧ ∀ d ∈ l.getD x.toNat [], s.contains d = true
instance (l : List (List Int)) (s : List Int) : Decidable (ClosedS l s) := inferInstanceAs (Decidable (Dom l ∧ s.length ≤ 100 ∧ ∀ x ∈ s, 0 ≤ x ∧ x < (l.length : Int) ∧ ∀ d ∈ l.getD x.toNat [], s.contains d = true))
def graph_Closed.f (l : List (List Int)) (s : List Int) : Option Bool := if ClosedS l s then some true else none
set_option maxRecDepth 100000 in
set_option maxHeartbeats 4000000 in
theorem graph_Closed.calls (A0 : Option Addr) (c0 : Nat) (l0 : List (List Int)) (A1 : Option Addr) (c1 : Nat) (l1 : List Int) (r : Bool) (w : World) (hr0 : Kd.C (Kd.slice 3 (Kd.int .i64)) w A0 l0.length l0) (hc0 : l0.length ≤ c0) (hr1 : Kd.C (Kd.int .i64) w A1 l1.length l1) (hc1 : l1.length ≤ c1) (h : graph_Closed.f l0 l1 = some r) :
    Calls Try.prog 9 #[.slice A0 l0.length c0, .slice A1 l1.length c1] w fun e w' => e = .returned (.bool r) ∧ Below w.heap.size w w' := by
  unfold graph_Closed.f at h
  by_cases hd : ClosedS l0 l1
  · rw [if_pos hd] at h
    obtain rfl := Option.some.inj h
    have hm := marks_is l1 l0.length (fun x hx => ⟨(hd.2.2 x hx).1, (hd.2.2 x hx).2.1⟩) (by have := hd.2.1; omega) (by have := hd.1.1; omega)
    have hml := mkM_len l1 l0.length
    have hmg := fun i => mkM_get l1 l0.length i (fun x hx => (hd.2.2 x hx).1)
    have hrt : graph_Right.f l0 = some true := by unfold graph_Right.f; rw [if_pos hd.1]
    generalize mkM l1 l0.length = ms at *
    have HC := Aside0.mk hr0
    have HC1 := Aside0.mk hr1
    have HD := Aside0.mk hd
    have HMG := Aside0.mk hmg
    have HML := Aside0.mk hml
    have hB0 : Aside0 (Below w.heap.size w (w.alloc (.cells #[.slice A0 l0.length c0] 26))) := ⟨(Below.refl _ _).alloc (Nat.le_refl _) _⟩
    have hcb : Aside0 ((w.alloc (.cells #[.slice A0 l0.length c0] 26)).cell? ⟨w.heap.size, 0, none⟩ = some (.slice A0 l0.length c0)) := ⟨cell_one_new _ _ _ 0 _ rfl⟩
    clear h hr0 hr1 hd hmg hml
    refine (callsIn_wide (n := 5)).1 ?_
    refine callsIn_of_wp_marks Try.func9 rfl trivial ?_ rfl
    refine wpIn_wide.2 ?_
    simp only [Try.ntmps9, List.size_toArray, List.length_cons, List.length_nil, Nat.reduceAdd, Nat.reduceSub, Array.replicate_succ, Array.replicate_zero, List.push_toArray, List.append_toArray, List.nil_append, List.cons_append]
    go_wp2
    go_step3
    go_upto_region 2 with (go_at_call 26; with_reducible refine (PA.graph_marks.calls (l1.length + 1) A1 c1 l1 (l0.length : Int) ms true _ (Kd.C_below HC1.out hB0.out) hc1 hm).mono ?_; rintro e w1 ⟨v1, rfl, ho, hb⟩; obtain ⟨Am, cm, e1⟩ := Kd.R_slice ho; subst e1; have HM := Aside0.mk (Kd.R_reads' ho); have HS1 := Aside0.mk hb; clear ho hb)
    have hBA : Below w1.heap.size w1 ((w1.alloc (.cells #[.slice Am ms.length cm] 59)).alloc (.cells #[.bool true] 4)) := ((Below.refl _ _).alloc (Nat.le_refl _) _).alloc (by simp) _
    have hc5 : ((w1.alloc (.cells #[.slice Am ms.length cm] 59)).alloc (.cells #[.bool true] 4)).cell? ⟨w1.heap.size, 0, none⟩ = some (.slice Am ms.length cm) := (((Below.refl (w1.alloc (.cells #[.slice Am ms.length cm] 59)).heap.size _).alloc (Nat.le_refl _) (.cells #[.bool true] 4)).cell (p := ⟨w1.heap.size, 0, none⟩) (by simp)).trans (cell_one_new _ _ _ 0 _ rfl)
    have hc6 : ((w1.alloc (.cells #[.slice Am ms.length cm] 59)).alloc (.cells #[.bool true] 4)).cell? ⟨w1.heap.size + 1, 0, none⟩ = some (.bool true) := by simp
    have hsa : ((w1.alloc (.cells #[.slice Am ms.length cm] 59)).alloc (.cells #[.bool true] 4)).heap.size = w1.heap.size + 2 := by simp
    generalize (w1.alloc (.cells #[.slice Am ms.length cm] 59)).alloc (.cells #[.bool true] 4) = wa at *
    have hsz1 := HS1.out.size
    have hs0 : (w.alloc (.cells #[.slice A0 l0.length c0] 26)).heap.size = w.heap.size + 1 := by simp
    have hc2 : wa.cell? ⟨w.heap.size, 0, none⟩ = some (.slice A0 l0.length c0) := (hBA.cell (p := ⟨w.heap.size, 0, none⟩) (by simp; omega)).trans ((HS1.out.cell (p := ⟨w.heap.size, 0, none⟩) (by simp)).trans hcb.out)
    have hBwa := below_step (below_step hB0.out HS1.out) hBA
    go_upto_region 4 with (go_at_call 10; with_reducible refine (graph_Right.calls A0 c0 l0 true _ (Kd.C_below HC.out hBwa) hc0 hrt).mono ?_; rintro e w2 ⟨rfl, hb2⟩)
    have hsz2 := hb2.size
    have d2 := (hb2.cell (p := ⟨w.heap.size, 0, none⟩) (by simp; omega)).trans hc2
    have d5 := (hb2.cell (p := ⟨w1.heap.size, 0, none⟩) (by simp; omega)).trans hc5
    have d6 := (hb2.cell (p := ⟨w1.heap.size + 1, 0, none⟩) (by simp; omega)).trans hc6
    have hBw2 := below_step hBwa hb2
    have hCm := Kd.C_below (Kd.C_below HM.out.2.2 hBA) hb2
    go_step3
    go_wp2_with (go_at_call 30; with_reducible refine (those_calls _ _ _ _).mono ?_; rintro e w3 ⟨rfl, hw3⟩; have HW3 := Aside0.mk hw3; clear hw3)
    have hB3 : Below w2.heap.size w2 w3 := by rw [HW3.out]; exact (Below.refl _ _).alloc (Nat.le_refl _) _
    have hs3 : w3.heap.size = w2.heap.size + 1 := by rw [HW3.out]; simp
    have e7 : w3.cell? ⟨w2.heap.size, 0, none⟩ = some (.slice Am ms.length cm) := by rw [HW3.out]; exact cell_one_new _ _ _ 0 _ rfl
    have e2 := (hB3.cell (p := ⟨w.heap.size, 0, none⟩) (by simp; omega)).trans d2
    have e5 := (hB3.cell (p := ⟨w1.heap.size, 0, none⟩) (by simp; omega)).trans d5
    have e6 := (hB3.cell (p := ⟨w1.heap.size + 1, 0, none⟩) (by simp; omega)).trans d6
    have hBw3 := below_step hBw2 hB3
    have hCm3 := Kd.C_below hCm hB3
    have hC3 := Kd.C_below HC.out hBw3
    have HCM := Aside0.mk hCm3
    have HC3 := Aside0.mk hC3
    have hms : ms.length ≤ 100 := by have := HML.out; have := HD.out.1.1; omega
    clear HW3 hc2 hc5 hc6 d2 d5 d6 hCm
    refine (wpIn_wide (n := 5)).1 ?_
    refine wpIn_rangeFunc_ownG (F := Fence.wide) (n := 5) rfl (by omega) (gf := 43) (lb := #[.pointer (some ⟨w2.heap.size, 0, none⟩)]) rfl trivial (enters_of Try.func43 (by kernel_rfl) rfl)
      (those_stopsM Fence.wide 4 trivial rfl (by omega) w2.heap.size w3.heap.size w3 (Nat.le_refl _) Am cm ms hCm3 hms w3 (Below.refl _ _) (Nat.le_refl _) (by omega) e7)
      belowK_t (belowK_b (Nat.le_refl _)) (Below.refl _ _) (fun _ => rfl)
      (fun _ W => Below w3.heap.size w3 W) (fun _ _ _ => False) (ownFrom_below (Nat.le_refl _) (Nat.le_refl _)) (fun _ _ _ _ _ hs _ _ => hs) (Below.refl _ _)
      (fun x => { tmps := #[.slice A0 l0.length c0, .slice A1 l1.length c1, .pointer (some ⟨w.heap.size, 0, none⟩), undef, .bool false, .pointer (some ⟨w1.heap.size, 0, none⟩), .pointer (some ⟨w1.heap.size + 1, 0, none⟩), .int .i64 x.1, undef, undef, .tuple #[.slice Am ms.length cm, .bool true], .slice A1 l1.length c1, .slice A0 l0.length c0, .int .i64 (l0.length : Int), .tuple #[.slice Am ms.length cm, .bool true], .slice Am ms.length cm, .bool true, .bool true, .bool false, .bool false, .slice A0 l0.length c0, .bool true, .bool false, .bool false, .slice Am ms.length cm, .func (.func 43) #[] #[.pointer (some ⟨w2.heap.size, 0, none⟩)], .int .i64 x.1, undef, undef, undef, undef, undef, undef, undef, undef, undef, undef, undef, undef, undef, undef, undef], defers := [] }) ?assign ?body ?done ?stop
    case assign =>
      intro l x W K hK
      gi_wp2
      exact hK
    case body =>
      rintro l pre ⟨x, hx⟩ W hB hlt
      obtain ⟨i, hi, rfl, hmi⟩ := ones_mem hx
      have hil : i < l0.length := by have := HML.out; omega
      rw [HMG.out i hil] at hmi
      have hin := HD.out.2.2 (i : Int) (List.contains_iff_mem.1 hmi)
      rw [Int.toNat_natCast] at hin
      have k2 := (hB.cell (p := ⟨w.heap.size, 0, none⟩) (by simp; omega)).trans e2
      have k5 := (hB.cell (p := ⟨w1.heap.size, 0, none⟩) (by simp; omega)).trans e5
      obtain ⟨ad, A4, c4, ea, x0, hl1, hC1⟩ := at_L5 (Kd.C_below HC3.out hB) (i : Int) (by omega) (by omega)
      have hz : rd_L5 l0 (i : Int) = l0.getD i [] := by simp [rd_L5]
      rw [hz] at x0 hl1 hC1
      rw [Int.toNat_natCast] at x0
      obtain ⟨q1, q2⟩ := HD.out.1.2 i hil
      have hmk : ∀ d ∈ l0.getD i [], 0 ≤ d ∧ d < (ms.length : Int) ∧ ms.getD d.toNat false = true := fun d hd => by
        have h1 := q2 d hd
        have h2 := hin.2.2 d hd
        have h3 := HMG.out d.toNat (by omega)
        have e : ((d.toNat : Nat) : Int) = d := by omega
        rw [e, h2] at h3
        exact ⟨h1.1, by have := HML.out; omega, h3⟩
      have r1 : (0 ≤ (i : Int)) = True := eq_true (by omega)
      have r2 : ((i : Int) < (l0.length : Int)) = True := eq_true (by omega)
      have HMK := Aside0.mk hmk
      have HC1 := Aside0.mk hC1
      have HB := Aside0.mk hB
      have HQ := Aside0.mk q1
      clear hin hmi hz q2 hmk hC1
      generalize l0.getD i [] = row at *
      subst ea
      gi_wp2
      gi_loopw [9, 32] (fun _ v32 wr => ∃ k : Nat, k ≤ row.length ∧ v32 = .int .i64 (k : Int) ∧ wr = W) (fun _ v32 _ => row.length - (intOf v32).toNat)
      case atStart => exact ⟨0, Nat.zero_le _, rfl, rfl⟩
      case round =>
        obtain ⟨k, hk, rfl, rfl⟩ := hrel
        by_cases hlt2 : k < row.length
        · obtain ⟨ad5, ea5, y0⟩ := Kd.at_int HC1.out (k : Int) (by omega) (by omega)
          have hz : rd row (k : Int) = row[k] := by simp [rd, List.getD_eq_getElem?_getD, hlt2]
          rw [hz, Int.toNat_natCast] at y0
          obtain ⟨m1, m2, m3⟩ := HMK.out row[k] (List.getElem_mem hlt2)
          generalize row[k] = d at *
          obtain ⟨ad6, ea6, y1⟩ := Kd.at_bool (Kd.C_below HCM.out HB.out) d m1 m2
          rw [show rdOf false ms d = ms.getD d.toNat false from rfl, m3] at y1
          subst ea5
          subst ea6
          have r3 : (0 ≤ d) = True := eq_true m1
          have r4 : (d < (ms.length : Int)) = True := eq_true m2
          have ew : Aside0 (wrap64 ((k : Int) + 1) = ((k + 1 : Nat) : Int)) := ⟨by have := HQ.out; unfold wrap64; omega⟩
          clear hz m1 m2 m3
          gi_wp2
          go_roundw
          case rel => exact ⟨k + 1, by omega, by go_num, by trivial⟩
          case measure => simp [intOf]; omega
        · obtain rfl : k = row.length := by omega
          gi_wp2
          exact ⟨KeepsFrom.refl _ _, Below.refl _ _, HB.out⟩
    case done =>
      rintro D ys W hD hS hB hK
      have k6 := (hB.cell (p := ⟨w1.heap.size + 1, 0, none⟩) (by simp; omega)).trans e6
      go_wp2
      rw [Exit.noGoto_ret]
      refine ⟨by simp, .inl ⟨_, _, rfl, run_takeDeferred hK, ?_⟩⟩
      exact ⟨_, results_tmp rfl _ _ _, rfl, (below_step hBw3 hB).trans (belowK_b (w := w) (Nat.le_refl _) W D _ _ (by omega) hK rfl rfl)⟩
    case stop =>
      rintro D c pre W _ _ h _
      exact h.elim
  · rw [if_neg hd] at h; cases h
end Go.Proofs.Ytokocakdcdcdgaa.PG
