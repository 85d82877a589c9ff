import Derived.Test.YtokocakdcdcdgaaTF
import Derived.RangeFuncNested
import Derived.RangeFuncBound
import Derived.RangeFuncCalls
import Derived.RangeFuncLeaves
import Derived.RangeFuncBox
import Derived.Shelf.Abstract
import Derived.Shelf.RegionOpen
import Derived.WalkKit
import Derived.WalkSpells
import Derived.Lib.Hide
import Derived.OwnWalkIn
import Derived.TacticsInMore
import Derived.LoopNIn
import Derived.LoopIn
import Derived.Maps.AppendAt
import Derived.Sort.QuietIn
import Derived.BigRegionIn
import Derived.WalkMore
/-! graph.Ready. -/
namespace Go.Proofs.Ytokocakdcdcdgaa.PG
open Go.RowKit Go.Proofs.YtokocakdcdcdgaaW.PrintWords Go.Proofs.YtokocakdcdcdgaaW.PrintLast Go.Proofs.YtokocakdcdcdgaaW.PrintMore
open Go.Shelf
attribute [local go_sem] Oper.semAt_some

theorem onesF_none : ∀ (n k : Nat), onesF k (List.replicate n false) = []
  | 0, _ => rfl
  | n + 1, k => by
    rw [List.replicate_succ]
    unfold onesF
    rw [if_neg (by decide)]
    exact onesF_none n (k + 1)
theorem onesF_one : ∀ (n X k : Nat), X < n → onesF k ((List.replicate n false).set X true) = [((k + X : Nat) : Int)]
  | 0, X, k, h => by omega
  | n + 1, 0, k, h => by
    rw [List.replicate_succ, List.set_cons_zero]
    unfold onesF
    rw [if_pos rfl, onesF_none]
    rfl
  | n + 1, X + 1, k, h => by
    rw [List.replicate_succ, List.set_cons_succ]
    unfold onesF
    rw [if_neg (by decide), onesF_one n X (k + 1) (by omega), show k + 1 + X = k + (X + 1) by omega]
/-- What is asked for, behind the first k. -/
def nvA (n X : Nat) (b : Bool) (k : Nat) : List Bool := (List.replicate n false).set X (if k ≤ X then true else b)
theorem nvA_len (n X : Nat) (b : Bool) (k : Nat) : (nvA n X b k).length = n := by unfold nvA; rw [List.length_set, List.length_replicate]
theorem nvA_get (n X : Nat) (b : Bool) (k i : Nat) (hi : i < n) : (nvA n X b k).getD i false = if i = X then (if k ≤ X then true else b) else false := by
  unfold nvA
  by_cases h : i = X
  · subst h
    simp [List.getD_eq_getElem?_getD, hi]
  · rw [if_neg h]
    simp only [List.getD_eq_getElem?_getD, List.getElem?_set_ne (Ne.symm h), List.getElem?_replicate, if_pos hi, Option.getD_some]
theorem nvA_other (n X : Nat) (b : Bool) (k : Nat) (h : k ≠ X) (_hk : k < n) : nvA n X b (k + 1) = (nvA n X b k).set k false := by
  unfold nvA
  rw [List.set_comm _ _ (Ne.symm h)]
  congr 1
  · symm
    apply List.ext_getElem (by simp)
    intro i h1 h2
    simp
  · by_cases h1 : k ≤ X
    · rw [if_pos h1, if_pos (by omega)]
    · rw [if_neg h1, if_neg (by omega)]
theorem nvA_self (n X : Nat) (b : Bool) : nvA n X b (X + 1) = (nvA n X b X).set X b := by
  unfold nvA
  rw [List.set_set, if_neg (by omega)]
theorem nvA_end (n X : Nat) (b : Bool) (h : X < n) : onesOf (nvA n X b n) = if b = true then [(X : Int)] else [] := by
  unfold nvA onesOf
  rw [if_neg (by omega)]
  cases b with
  | true => rw [onesF_one n X 0 h, if_pos rfl, Nat.zero_add]
  | false =>
    rw [if_neg (by decide), show (List.replicate n false).set X false = List.replicate n false by apply List.ext_getElem (by simp); intro i h1 h2; simp]
    exact onesF_none n 0
theorem cell_far (W : World) (p : Addr) (u : Value) (q : Addr) (h : q.block ≠ p.block) : (W.setCell p u).cell? q = W.cell? q := by
  unfold World.cell?
  rw [Below.heap_setCell W p u q.block h]
set_option maxHeartbeats 1000000 in
theorem waits_calls (q q2 gN cN n cm _X : Nat) (Am : Option Addr) (ms _nv : List Bool) (d : Int) (W : World) (hq : W.cell? ⟨q, 0, none⟩ = some (.slice Am n cm)) (hq2 : W.cell? ⟨q2, 0, none⟩ = some (.slice (some ⟨gN, 0, none⟩) n cN)) (h0 : 0 ≤ d) (h1 : d < (n : Int))
    (hm : ∃ ad, Am = some ad ∧ W.cell? (ad.add d.toNat) = some (.bool (ms.getD d.toNat false))) (hn : W.cell? ⟨gN, d.toNat, none⟩ = some (.bool false)) :
    Calls Try.prog 28 #[.int .i64 d, .pointer (some ⟨q, 0, none⟩), .pointer (some ⟨q2, 0, none⟩)] W fun e w' => e = .returned (.bool (!ms.getD d.toNat false)) ∧ w' = W := by
  obtain ⟨ad, rfl, hm⟩ := hm
  replace h0 := eq_true h0
  replace h1 := eq_true h1
  cases hv : ms.getD d.toNat false with
  | true =>
    rw [hv] at hm
    clear hv
    go_enter Try.func28, Try.ntmps28
    go_wp2
    go_ret
    exact ⟨rfl, rfl⟩
  | false =>
    rw [hv] at hm
    clear hv
    go_enter Try.func28, Try.ntmps28
    go_wp2
    go_ret
    exact ⟨rfl, rfl⟩
def rdy_T8 : Bool × List (List Nat × List Nat) := (true, [([], []), ([], []), ([], []), ([], []), ([2, 3], [2, 3]), ([4], [4]), ([5], [5]), ([6], [6]), ([6], [6]), ([7, 8, 6], [6, 7, 8]), ([9, 6], [6, 9]), ([10, 6], [6, 10]), ([6, 11], [6, 11]), ([12, 6], [12]), ([13], [13]), ([13], [13]), ([14, 15, 13, 13], [13, 14, 15]), ([16, 13], [13, 16]), ([13, 17], [13, 17]), ([0, 1, 0, 1, 2, 3, 4, 5, 6, 7, 8, 9, 10, 11, 12, 13, 14, 15, 16, 17, 18], [0, 1]), ([19, 18, 16, 0, 1, 2, 3, 4, 5, 6, 7, 8, 9, 10, 11, 12, 13, 14, 15, 16, 17, 18], [18, 19])])
def rdy_B8 : List Nat := [0, 0, 0, 0, 12, 28, 60, 124, 124, 508, 1020, 2044, 4092, 8188, 16380, 16380, 65532, 131068, 262140, 524287, 1048575]
theorem rdy_tab8 : rtab .any (opsOf Try.f8 8) = rdy_T8 := by kernel_rfl
theorem rdy_bits8 : waitsOk rdy_T8.2 rdy_B8 = true := by kernel_rfl
/-- What is asked for can come now. -/
def canS (l : List (List Int)) (s : List Int) (x : Int) : Bool := !s.contains x && !(l.getD x.toNat []).any (fun d => !s.contains d)
def ReadyS (l : List (List Int)) (s : List Int) (x : Int) : Prop := Dom l ∧ s.length ≤ 100 ∧ (∀ y ∈ s, 0 ≤ y ∧ y < (l.length : Int)) ∧ 0 ≤ x ∧ x < (l.length : Int)
instance (l : List (List Int)) (s : List Int) (x : Int) : Decidable (ReadyS l s x) := inferInstanceAs (Decidable (Dom l ∧ s.length ≤ 100 ∧ (∀ y ∈ s, 0 ≤ y ∧ y < (l.length : Int)) ∧ 0 ≤ x ∧ x < (l.length : Int)))
def graph_Ready.f (l : List (List Int)) (s : List Int) : List Int → Option (List Int)
  | [x] => if ReadyS l s x then some (if canS l s x = true then [x] else []) else none
  | _ => none
set_option maxRecDepth 100000 in
set_option maxHeartbeats 8000000 in
theorem ready_one (A0 : Option Addr) (c0 : Nat) (l0 : List (List Int)) (A1 : Option Addr) (c1 : Nat) (l1 : List Int) (A2 : Option Addr) (c2 : Nat) (X : Nat) (w : World) (hr0 : Kd.C (Kd.slice 3 (Kd.int .i64)) w A0 l0.length l0) (hc0 : l0.length ≤ c0) (hr1 : Kd.C (Kd.int .i64) w A1 l1.length l1) (hc1 : l1.length ≤ c1) (hr2 : Kd.C (Kd.int .i64) w A2 1 [(X : Int)]) (hc2 : 1 ≤ c2) (hd : ReadyS l0 l1 (X : Int)) :
    Calls Try.prog 8 #[.slice A0 l0.length c0, .slice A1 l1.length c1, .slice A2 1 c2] w fun e w' => (∃ v0_ : Value, e = .returned v0_ ∧ Kd.R (Kd.int .i64) 3 w' w.heap.size (fun _ => True) v0_ (if canS l0 l1 (X : Int) = true then [(X : Int)] else [])) ∧ Below w.heap.size w w' := by
  obtain ⟨n, hn⟩ : ∃ n, l0.length = n := ⟨_, rfl⟩
  have hXn : X < n := by have := hd.2.2.2.2; omega
  have hn1 : n ≤ 100 := by have := hd.1.1; omega
  have hm := marks_is l1 n (fun x hx => by rw [← hn]; exact hd.2.2.1 x hx) (by have := hd.2.1; omega) (by omega)
  have hm2 := marks_is [(X : Int)] n (fun x hx => by obtain rfl := List.mem_singleton.1 hx; omega) (by simp) (by omega)
  have hml := mkM_len l1 n
  have hmg := fun i => mkM_get l1 n i (fun x hx => (hd.2.2.1 x hx).1)
  have hrt : graph_Right.f l0 = some true := by unfold graph_Right.f; rw [if_pos hd.1]
  obtain ⟨b, hb⟩ : ∃ b, canS l0 l1 (X : Int) = b := ⟨_, rfl⟩
  have hbd : b = (!l1.contains (X : Int) && !(l0.getD X []).any (fun d => !l1.contains d)) := by rw [← hb]; rfl
  rw [hb]
  have hnv0 : mkM [(X : Int)] n = nvA n X b 0 := by unfold mkM nvA; rw [if_pos (Nat.zero_le _)]; rfl
  rw [hnv0] at hm2
  have hnl := nvA_len n X b
  have hng := nvA_get n X b
  have hno := nvA_other n X b
  have hns := nvA_self n X b
  have hne := nvA_end n X b hXn
  obtain ⟨rr, hrr⟩ : ∃ rr, (if b = true then [(X : Int)] else []) = rr := ⟨_, rfl⟩
  rw [hrr] at hne ⊢
  clear hrr
  have hd1 := hd.1
  generalize mkM l1 n = ms at *
  rw [hn] at hr0 hc0
  have HC := Aside0.mk hr0
  have HC1 := Aside0.mk hr1
  have HC2 := Aside0.mk hr2
  have HD := Aside0.mk hd1
  have HMG := Aside0.mk hmg
  have HML := Aside0.mk hml
  have HBD := Aside0.mk hbd
  have HN := Aside0.mk hn
  have HNL := Aside0.mk hnl
  have HNG := Aside0.mk hng
  have HNO := Aside0.mk hno
  have HNS := Aside0.mk hns
  have HNE := Aside0.mk hne
  rw [hn]
  clear hr0 hr1 hr2 hd hd1 hmg hml hbd hb hnv0 hnl hng hno hns hne hn
  go_enter Try.func8, Try.ntmps8
  go_upto_region 3 with (go_at_call 10; with_reducible refine (by have h := graph_Right.calls A0 c0 l0 true w (by rw [HN.out]; exact HC.out) (by rw [HN.out]; exact hc0) hrt; rw [HN.out] at h; exact h : Calls Try.prog 10 #[.slice A0 n c0] w fun e w' => e = .returned (.bool true) ∧ Below w.heap.size w w').mono ?_; rintro e w1 ⟨rfl, hb1⟩)
  go_upto_region 4 with (go_at_call 26; with_reducible refine (PA.graph_marks.calls (l1.length + 1) A1 c1 l1 (n : Int) ms true _ (Kd.C_below HC1.out hb1) hc1 hm).mono ?_; rintro e w2 ⟨v2, rfl, ho, hb2⟩; obtain ⟨Am, cm, e1⟩ := Kd.R_slice ho; rw [HML.out] at e1; subst e1; have HM := Aside0.mk (Kd.R_reads' ho); clear ho)
  have hB3 : Below w2.heap.size w2 (w2.alloc (.cells #[.slice Am n cm] 59)) := (Below.refl _ _).alloc (Nat.le_refl _) _
  have b7 : (w2.alloc (.cells #[.slice Am n cm] 59)).cell? ⟨w2.heap.size, 0, none⟩ = some (.slice Am n cm) := cell_one_new _ _ _ 0 _ rfl
  have hs3 : (w2.alloc (.cells #[.slice Am n cm] 59)).heap.size = w2.heap.size + 1 := by simp
  generalize w2.alloc (.cells #[.slice Am n cm] 59) = w3 at *
  have hBw3 := below_step (below_step hb1 hb2) hB3
  have hmk : ∀ W, Below w.heap.size w W → Calls Try.prog 26 #[.slice A2 1 c2, .int .i64 (n : Int)] W fun e w' => ∃ v0_ : Value, e = .returned (.tuple #[v0_, .bool true]) ∧ Kd.R Kd.bool 4 w' W.heap.size (fun _ => True) v0_ (nvA n X b 0) ∧ Below W.heap.size W w' := fun W hb => PA.graph_marks.calls 2 A2 c2 [(X : Int)] (n : Int) _ true W (Kd.C_below HC2.out hb) hc2 hm2
  go_upto_region 5 with (go_at_call 26; with_reducible refine (hmk _ hBw3).mono ?_; rintro e w4 ⟨v4, rfl, ho, hb4⟩; obtain ⟨gN, cN, e1, gb, gl, -, -⟩ := Kd.R_form ho (by rw [HNL.out]; omega); rw [HNL.out] at e1; subst e1; have HO := Aside0.mk ho; have HGN := Aside0.mk gb; have HGL := Aside0.mk gl; clear ho gb gl)
  have hs4 := hb4.size
  have hB5 : Below w4.heap.size w4 (w4.alloc (.cells #[.slice (some ⟨gN, 0, none⟩) n cN] 59)) := (Below.refl _ _).alloc (Nat.le_refl _) _
  have b9 : (w4.alloc (.cells #[.slice (some ⟨gN, 0, none⟩) n cN] 59)).cell? ⟨w4.heap.size, 0, none⟩ = some (.slice (some ⟨gN, 0, none⟩) n cN) := cell_one_new _ _ _ 0 _ rfl
  have hs5 : (w4.alloc (.cells #[.slice (some ⟨gN, 0, none⟩) n cN] 59)).heap.size = w4.heap.size + 1 := by simp
  generalize w4.alloc (.cells #[.slice (some ⟨gN, 0, none⟩) n cN] 59) = w5 at *
  have HR5 := Aside0.mk (Kd.R_below HO.out hB5)
  have hCm := Kd.C_below HM.out.2.2 hB3
  have HCM := Aside0.mk hCm
  have HC3 := Aside0.mk (Kd.C_below HC.out hBw3)
  have HB35 := Aside0.mk (below_step hb4 hB5)
  have HBW3 := Aside0.mk hBw3
  have HB7 := Aside0.mk b7
  have HS := Aside0.mk (And.intro hs3 (And.intro hs4 hs5))
  have HX := Aside0.mk b9
  clear hB3 hBw3 hs3 hs4 hs5 hB5 hCm b7 b9 hmk hb1 hb2 hb4 HO
  go_wp2
  go_loopg [11, 12, 32] n (fun kq _ _ v32 w' => ∃ k : Nat, k + kq = n ∧ v32 = .int .i64 (k : Int) ∧ Aside0 (Kd.R Kd.bool 4 w' w3.heap.size (fun _ => True) (.slice (some ⟨gN, 0, none⟩) n cN) (nvA n X b k)) ∧ Aside0 (Below w3.heap.size w3 w') ∧ Aside0 (w'.cell? ⟨w4.heap.size, 0, none⟩ = some (.slice (some ⟨gN, 0, none⟩) n cN)))
  case atStart => exact ⟨0, by omega, rfl, HR5, HB35, HX⟩
  case round =>
    clear HR5 HB35 HX
    obtain ⟨k, hk, rfl, HR, HB, HX⟩ := hrel
    cases gk with
    | succ k1 =>
      have hkn : k < n := by omega
      have f1 : decide ((k : Int) < (n : Int)) = true := by simp; omega
      have f1b : decide (k < n) = true := by simp; omega
      have r1 : (0 ≤ (k : Int)) = True := eq_true (by omega)
      have r2 : ((k : Int) < (n : Int)) = True := eq_true (by omega)
      obtain ⟨ad, A4, c4, ea, x0, hl1, hC1⟩ := at_L5 (Kd.C_below HC3.out HB.out) (k : Int) (by omega) (by omega)
      subst ea
      have hz : rd_L5 l0 (k : Int) = l0.getD k [] := by simp [rd_L5]
      rw [hz] at x0 hl1 hC1
      rw [Int.toNat_natCast] at x0
      obtain ⟨q1, q2⟩ := HD.out.2 k (by have := HN.out; omega)
      have b9 := HX.out
      have b7 : wr.cell? ⟨w2.heap.size, 0, none⟩ = some (.slice Am n cm) := (HB.out.cell (p := ⟨w2.heap.size, 0, none⟩) (by have := HS.out.1; simp; omega)).trans HB7.out
      obtain ⟨n0, -⟩ := Kd.R_celln false HR.out (k : Int) (by omega) (by omega)
      rw [Int.toNat_natCast] at n0
      have hgk := HNG.out k k hkn
      have ew : Aside0 (wrap64 ((k : Int) + 1) = ((k + 1 : Nat) : Int)) := ⟨by unfold wrap64; omega⟩
      have hwas : ∀ (d : Int) (W : World), 0 ≤ d → d < (n : Int) → Below w3.heap.size w3 W → ∃ adM, Am = some adM ∧ W.cell? (adM.add d.toNat) = some (.bool (ms.getD d.toNat false)) := fun d W h0 h1 hb => Kd.at_bool (Kd.C_below HCM.out hb) d h0 (by have := HML.out; omega)
      rw [show rdOf false (nvA n X b k) (k : Int) = (nvA n X b k).getD k false from rfl, hgk] at n0
      have HGN3 : w3.heap.size ≤ gN := HGN.out
      by_cases hkX : k = X
      · subst hkX
        rw [if_pos rfl, if_pos (Nat.le_refl _)] at n0
        have hbd := HBD.out
        have hmk : ∀ d ∈ l0.getD k [], 0 ≤ d ∧ d < (k : Int) := q2
        generalize l0.getD k [] = row at *
        obtain ⟨adM, eM, m0⟩ := hwas (k : Int) wr (by omega) (by omega) HB.out
        rw [Int.toNat_natCast, HMG.out k hkn] at m0
        cases hc : l1.contains (k : Int) with
        | true =>
          rw [hc] at m0 hbd
          obtain rfl : b = false := by rw [hbd]; rfl
          have HNV : Aside0 (nvA n k false (k + 1) = (nvA n k false k).set k false) := HNS
          subst eM
          clear hbd hz hwas hgk hc hC1 q1 q2 hmk hl1
          go_upto_region 8 with (fail)
          refine start_ (n := 21) (S := fun w' => w'.cell? ⟨w4.heap.size, 0, none⟩ = some (.slice (some ⟨gN, 0, none⟩) n cN) ∧ w'.cell? ⟨gN, k, none⟩ = some (.bool true) ∧ w'.cell? ⟨w2.heap.size, 0, none⟩ = some (.slice (some adM) n cm) ∧ w'.cell? (adM.add k) = some (.bool true)) (ds := [20]) #[false, false, false, false, false, false, false, false, false, false, false, false, false, false, false, false, false, false, false, false, false] (by kernel_rfl) rfl rfl ⟨b9, n0, b7, m0⟩ (fun hHeld => ?_); refine with_tabW rdy_tab8 rdy_bits8 (fun HT_ HW_ => ?_)
          refine take_ (i := 0) (N := some 37) (v := ?_) (a' := ?_) #[true, false, false, false, false, false, false, false, false, false, false, false, false, false, false, false, false, false, false, false, false] rfl rfl (take_ofW HT_.out HW_.out (by kernel_rfl)) (fun _ _ _ h => h) (Or.inl ⟨by rfl, ?_⟩) hHeld ?_ ?_
          rotate_left
          · rintro w' ⟨s0, s1, s2, s3⟩
            go_simp
            with_reducible rfl
          rotate_left
          · simp only [Act.put, List.setIfInBounds_toArray, List.set_cons_zero, List.set_cons_succ]
            rfl
          refine pure_ (i := 1) (N := some 38) (v := ?_) (a' := ?_) #[true, true, false, false, false, false, false, false, false, false, false, false, false, false, false, false, false, false, false, false, false] rfl rfl (any_of HT_.out (by kernel_rfl)) (fun _ _ _ h => h) (Or.inl ⟨by rfl, ?_⟩) ?_ ?_
          rotate_left
          · intro w'
            go_simp
            with_reducible rfl
          rotate_left
          · simp only [Act.put, List.setIfInBounds_toArray, List.set_cons_zero, List.set_cons_succ]
            rfl
          refine take_ (i := 2) (N := some 39) (v := ?_) (a' := ?_) #[true, true, true, false, false, false, false, false, false, false, false, false, false, false, false, false, false, false, false, false, false] rfl rfl (take_ofW HT_.out HW_.out (by kernel_rfl)) (fun _ _ _ h => h) (Or.inl ⟨by rfl, ?_⟩) hHeld ?_ ?_
          rotate_left
          · rintro w' ⟨s0, s1, s2, s3⟩
            go_simp
            with_reducible rfl
          rotate_left
          · simp only [Act.put, List.setIfInBounds_toArray, List.set_cons_zero, List.set_cons_succ]
            rfl
          refine pure_ (i := 3) (N := some 40) (v := ?_) (a' := ?_) #[true, true, true, true, false, false, false, false, false, false, false, false, false, false, false, false, false, false, false, false, false] rfl rfl (any_of HT_.out (by kernel_rfl)) (fun _ _ _ h => h) (Or.inl ⟨by rfl, ?_⟩) ?_ ?_
          rotate_left
          · intro w'
            go_simp
            with_reducible rfl
          rotate_left
          · simp only [Act.put, List.setIfInBounds_toArray, List.set_cons_zero, List.set_cons_succ]
            rfl
          refine pure_ (i := 4) (N := some 41) (v := ?_) (a' := ?_) #[true, true, true, true, true, false, false, false, false, false, false, false, false, false, false, false, false, false, false, false, false] rfl rfl (any_of HT_.out (by kernel_rfl)) (fun _ _ _ h => h) (Or.inl ⟨by rfl, ?_⟩) ?_ ?_
          rotate_left
          · intro w'
            go_simp
            with_reducible rfl
          rotate_left
          · simp only [Act.put, List.setIfInBounds_toArray, List.set_cons_zero, List.set_cons_succ]
            rfl
          refine take_ (i := 5) (N := some 42) (v := ?_) (a' := ?_) #[true, true, true, true, true, true, false, false, false, false, false, false, false, false, false, false, false, false, false, false, false] rfl rfl (take_ofW HT_.out HW_.out (by kernel_rfl)) (fun _ _ _ h => h) (Or.inl ⟨by rfl, ?_⟩) hHeld ?_ ?_
          rotate_left
          · rintro w' ⟨s0, s1, s2, s3⟩
            go_simp
            with_reducible rfl
          rotate_left
          · simp only [Act.put, List.setIfInBounds_toArray, List.set_cons_zero, List.set_cons_succ]
            rfl
          refine pure_ (i := 6) (N := some 43) (v := ?_) (a' := ?_) #[true, true, true, true, true, true, true, false, false, false, false, false, false, false, false, false, false, false, false, false, false] rfl rfl (any_of HT_.out (by kernel_rfl)) (fun _ _ _ h => h) (Or.inl ⟨by rfl, ?_⟩) ?_ ?_
          rotate_left
          · intro w'
            go_simp
            with_reducible rfl
          rotate_left
          · simp only [Act.put, List.setIfInBounds_toArray, List.set_cons_zero, List.set_cons_succ]
            rfl
          refine take_ (i := 7) (N := some 44) (v := ?_) (a' := ?_) #[true, true, true, true, true, true, true, true, false, false, false, false, false, false, false, false, false, false, false, false, false] rfl rfl (take_ofW HT_.out HW_.out (by kernel_rfl)) (fun _ _ _ h => h) (Or.inl ⟨by rfl, ?_⟩) hHeld ?_ ?_
          rotate_left
          · rintro w' ⟨s0, s1, s2, s3⟩
            go_simp
            with_reducible rfl
          rotate_left
          · simp only [Act.put, List.setIfInBounds_toArray, List.set_cons_zero, List.set_cons_succ]
            rfl
          refine pure_ (i := 8) (N := some 45) (v := ?_) (a' := ?_) #[true, true, true, true, true, true, true, true, true, false, false, false, false, false, false, false, false, false, false, false, false] rfl rfl (any_of HT_.out (by kernel_rfl)) (fun _ _ _ h => h) (Or.inl ⟨by rfl, ?_⟩) ?_ ?_
          rotate_left
          · intro w'
            go_simp
            with_reducible rfl
          rotate_left
          · simp only [Act.put, List.setIfInBounds_toArray, List.set_cons_zero, List.set_cons_succ]
            rfl
          refine pure_ (i := 9) (N := some 46) (v := ?_) (a' := ?_) #[true, true, true, true, true, true, true, true, true, true, false, false, false, false, false, false, false, false, false, false, false] rfl rfl (any_of HT_.out (by kernel_rfl)) (fun _ _ _ h => h) (Or.inl ⟨by rfl, ?_⟩) ?_ ?_
          rotate_left
          · intro w'
            go_simp
            with_reducible rfl
          rotate_left
          · simp only [Act.put, List.setIfInBounds_toArray, List.set_cons_zero, List.set_cons_succ]
            rfl
          refine take_ (i := 10) (N := some 47) (v := ?_) (a' := ?_) #[true, true, true, true, true, true, true, true, true, true, true, false, false, false, false, false, false, false, false, false, false] rfl rfl (take_ofW HT_.out HW_.out (by kernel_rfl)) (fun _ _ _ h => h) (Or.inl ⟨by rfl, ?_⟩) hHeld ?_ ?_
          rotate_left
          · rintro w' ⟨s0, s1, s2, s3⟩
            go_simp
            with_reducible rfl
          rotate_left
          · simp only [Act.put, List.setIfInBounds_toArray, List.set_cons_zero, List.set_cons_succ]
            rfl
          refine pure_ (i := 11) (N := some 48) (v := ?_) (a' := ?_) #[true, true, true, true, true, true, true, true, true, true, true, true, false, false, false, false, false, false, false, false, false] rfl rfl (any_of HT_.out (by kernel_rfl)) (fun _ _ _ h => h) (Or.inl ⟨by rfl, ?_⟩) ?_ ?_
          rotate_left
          · intro w'
            go_simp
            with_reducible rfl
          rotate_left
          · simp only [Act.put, List.setIfInBounds_toArray, List.set_cons_zero, List.set_cons_succ]
            rfl
          refine pure_ (i := 12) (N := some 49) (v := ?_) (a' := ?_) #[true, true, true, true, true, true, true, true, true, true, true, true, true, false, false, false, false, false, false, false, false] rfl rfl (any_of HT_.out (by kernel_rfl)) (fun _ _ _ h => h) (Or.inl ⟨by rfl, ?_⟩) ?_ ?_
          rotate_left
          · intro w'
            go_simp
            with_reducible rfl
          rotate_left
          · simp only [Act.put, List.setIfInBounds_toArray, List.set_cons_zero, List.set_cons_succ]
            rfl
          refine pure_ (i := 13) (N := some 50) (v := ?_) (a' := ?_) #[true, true, true, true, true, true, true, true, true, true, true, true, true, true, false, false, false, false, false, false, false] rfl rfl (any_of HT_.out (by kernel_rfl)) (fun _ _ _ h => h) (Or.inl ⟨by rfl, ?_⟩) ?_ ?_
          rotate_left
          · intro w'
            go_simp
            with_reducible rfl
          rotate_left
          · simp only [Act.put, List.setIfInBounds_toArray, List.set_cons_zero, List.set_cons_succ]
            rfl
          refine pure_ (i := 14) (N := some 51) (v := undef) (a' := ?_) #[true, true, true, true, true, true, true, true, true, true, true, true, true, true, true, false, false, false, false, false, false] rfl rfl (any_of HT_.out (by kernel_rfl)) (fun _ _ _ h => h) (Or.inr ⟨by rfl, rfl⟩) ?_ ?_
          rotate_left
          · simp only [Act.put, List.setIfInBounds_toArray, List.set_cons_zero, List.set_cons_succ]
            rfl
          refine pure_ (i := 15) (N := some 52) (v := undef) (a' := ?_) #[true, true, true, true, true, true, true, true, true, true, true, true, true, true, true, true, false, false, false, false, false] rfl rfl (any_of HT_.out (by kernel_rfl)) (fun _ _ _ h => h) (Or.inr ⟨by rfl, rfl⟩) ?_ ?_
          rotate_left
          · simp only [Act.put, List.setIfInBounds_toArray, List.set_cons_zero, List.set_cons_succ]
            rfl
          refine pure_ (i := 16) (N := some 53) (v := undef) (a' := ?_) #[true, true, true, true, true, true, true, true, true, true, true, true, true, true, true, true, true, false, false, false, false] rfl rfl (any_of HT_.out (by kernel_rfl)) (fun _ _ _ h => h) (Or.inr ⟨by rfl, rfl⟩) ?_ ?_
          rotate_left
          · simp only [Act.put, List.setIfInBounds_toArray, List.set_cons_zero, List.set_cons_succ]
            rfl
          refine pure_ (i := 17) (N := some 54) (v := undef) (a' := ?_) #[true, true, true, true, true, true, true, true, true, true, true, true, true, true, true, true, true, true, false, false, false] rfl rfl (any_of HT_.out (by kernel_rfl)) (fun _ _ _ h => h) (Or.inr ⟨by rfl, rfl⟩) ?_ ?_
          rotate_left
          · simp only [Act.put, List.setIfInBounds_toArray, List.set_cons_zero, List.set_cons_succ]
            rfl
          refine pure_ (i := 18) (N := some 55) (v := ?_) (a' := ?_) #[true, true, true, true, true, true, true, true, true, true, true, true, true, true, true, true, true, true, true, false, false] rfl rfl (any_of HT_.out (by kernel_rfl)) (fun _ _ _ h => h) (Or.inl ⟨by rfl, ?_⟩) ?_ ?_
          rotate_left
          · intro w'
            go_simp
            with_reducible rfl
          rotate_left
          · simp only [Act.put, List.setIfInBounds_toArray, List.set_cons_zero, List.set_cons_succ]
            rfl
          refine pure_ (i := 19) (N := some 56) (v := ?_) (a' := ?_) #[true, true, true, true, true, true, true, true, true, true, true, true, true, true, true, true, true, true, true, true, false] rfl rfl (any_of HT_.out (by kernel_rfl)) (fun _ _ _ h => h) (Or.inl ⟨by rfl, ?_⟩) ?_ ?_
          rotate_left
          · intro w'
            go_simp
            with_reducible rfl
          rotate_left
          · simp only [Act.put, List.setIfInBounds_toArray, List.set_cons_zero, List.set_cons_succ]
            rfl
          refine last_ (i := 20) (N := none) #[true, true, true, true, true, true, true, true, true, true, true, true, true, true, true, true, true, true, true, true, true] rfl rfl (one_of HT_.out (by kernel_rfl)) (by decide) (fun K hK => ?_)
          obtain ⟨hx8, hf8⟩ := Kd.R_celln false HR.out (k : Int) (by omega) (by omega)
          rw [Int.toNat_natCast] at hx8 hf8
          refine skip_ (w1 := ?_) (by rfl) rfl ?_ ?_
          rotate_left
          · go_simp
            rfl
          refine hK.out _ _ ?_
          clear hK K hx8 hf8
          refine done_ (done_of HT_.out (by kernel_rfl)) ?_
          go_wp2
          go_roundg k1
          case rel => exact ⟨k + 1, by omega, by first | rfl | rw [ew.out], ⟨by rw [HNV.out]; exact Kd.R_drew (by have hp := Kd.R_putn HR.out (k : Int) false; rw [Int.toNat_natCast] at hp; exact hp)⟩, ⟨below_drew (HB.out.setCell (p := ⟨gN, k, none⟩) HGN.out _)⟩, ⟨(cell_far wr ⟨gN, k, none⟩ _ ⟨w4.heap.size, 0, none⟩ (by show w4.heap.size ≠ gN; have := HGL.out; omega)).trans HX.out⟩⟩
          all_goals omega
        | false =>
          rw [hc] at m0 hbd
          obtain ⟨a, ha⟩ : ∃ a, row.any (fun d => !l1.contains d) = a := ⟨_, rfl⟩
          rw [ha] at hbd
          have hany : ∀ W, Below wr.heap.size wr W → Calls Try.prog 27 #[.slice A4 row.length c4, .func (.func 28) #[] #[.pointer (some ⟨w2.heap.size, 0, none⟩), .pointer (some ⟨w4.heap.size, 0, none⟩)]] W fun e w' => e = .returned (.bool a) ∧ Below W.heap.size W w' := fun W hb => by
            have h := anyY_calls w2.heap.size w4.heap.size (fun d => !l1.contains d) A4 c4 row W (Kd.C_below hC1 hb) q1 (fun W2 d hd hb2 => by
              have hb3 := below_step hb hb2
              have hdd := hmk d hd
              have e : ((d.toNat : Nat) : Int) = d := by omega
              have h1 := HMG.out d.toNat (by omega)
              rw [e] at h1
              have hn := (Kd.R_celln false (Kd.R_below HR.out hb3) d hdd.1 (by omega)).1
              rw [show rdOf false (nvA n k b k) d = (nvA n k b k).getD d.toNat false from rfl, HNG.out k d.toNat (by omega), if_neg (by omega)] at hn
              have hw := waits_calls w2.heap.size w4.heap.size gN cN n cm k Am ms [] d W2 ((hb3.cell (p := ⟨w2.heap.size, 0, none⟩) (World.block_lt_of_cell? wr _ b7)).trans b7) ((hb3.cell (p := ⟨w4.heap.size, 0, none⟩) (World.block_lt_of_cell? wr _ b9)).trans b9) hdd.1 (by omega) (hwas d W2 hdd.1 (by omega) (below_step HB.out hb3)) hn
              rw [h1] at hw
              exact hw)
            rw [ha] at h
            exact h
          subst eM
          clear hz hwas hgk hc hC1 q1 q2 hmk hl1 ha
          cases a with
          | true =>
            obtain rfl : b = false := by rw [hbd]; rfl
            have HNV : Aside0 (nvA n k false (k + 1) = (nvA n k false k).set k false) := HNS
            clear hbd
            go_upto_region 8 with (fail)
            refine start_ (n := 21) (S := fun w' => w'.cell? ⟨w4.heap.size, 0, none⟩ = some (.slice (some ⟨gN, 0, none⟩) n cN) ∧ w'.cell? ⟨gN, k, none⟩ = some (.bool true) ∧ w'.cell? ⟨w2.heap.size, 0, none⟩ = some (.slice (some adM) n cm) ∧ w'.cell? (adM.add k) = some (.bool false)) (ds := [20]) #[false, false, false, false, false, false, false, false, false, false, false, false, false, false, false, false, false, false, false, false, false] (by kernel_rfl) rfl rfl ⟨b9, n0, b7, m0⟩ (fun hHeld => ?_); refine with_tabW rdy_tab8 rdy_bits8 (fun HT_ HW_ => ?_)
            refine take_ (i := 0) (N := some 37) (v := ?_) (a' := ?_) #[true, false, false, false, false, false, false, false, false, false, false, false, false, false, false, false, false, false, false, false, false] rfl rfl (take_ofW HT_.out HW_.out (by kernel_rfl)) (fun _ _ _ h => h) (Or.inl ⟨by rfl, ?_⟩) hHeld ?_ ?_
            rotate_left
            · rintro w' ⟨s0, s1, s2, s3⟩
              go_simp
              with_reducible rfl
            rotate_left
            · simp only [Act.put, List.setIfInBounds_toArray, List.set_cons_zero, List.set_cons_succ]
              rfl
            refine pure_ (i := 1) (N := some 38) (v := ?_) (a' := ?_) #[true, true, false, false, false, false, false, false, false, false, false, false, false, false, false, false, false, false, false, false, false] rfl rfl (any_of HT_.out (by kernel_rfl)) (fun _ _ _ h => h) (Or.inl ⟨by rfl, ?_⟩) ?_ ?_
            rotate_left
            · intro w'
              go_simp
              with_reducible rfl
            rotate_left
            · simp only [Act.put, List.setIfInBounds_toArray, List.set_cons_zero, List.set_cons_succ]
              rfl
            refine take_ (i := 2) (N := some 39) (v := ?_) (a' := ?_) #[true, true, true, false, false, false, false, false, false, false, false, false, false, false, false, false, false, false, false, false, false] rfl rfl (take_ofW HT_.out HW_.out (by kernel_rfl)) (fun _ _ _ h => h) (Or.inl ⟨by rfl, ?_⟩) hHeld ?_ ?_
            rotate_left
            · rintro w' ⟨s0, s1, s2, s3⟩
              go_simp
              with_reducible rfl
            rotate_left
            · simp only [Act.put, List.setIfInBounds_toArray, List.set_cons_zero, List.set_cons_succ]
              rfl
            refine pure_ (i := 3) (N := some 40) (v := ?_) (a' := ?_) #[true, true, true, true, false, false, false, false, false, false, false, false, false, false, false, false, false, false, false, false, false] rfl rfl (any_of HT_.out (by kernel_rfl)) (fun _ _ _ h => h) (Or.inl ⟨by rfl, ?_⟩) ?_ ?_
            rotate_left
            · intro w'
              go_simp
              with_reducible rfl
            rotate_left
            · simp only [Act.put, List.setIfInBounds_toArray, List.set_cons_zero, List.set_cons_succ]
              rfl
            refine pure_ (i := 4) (N := some 41) (v := ?_) (a' := ?_) #[true, true, true, true, true, false, false, false, false, false, false, false, false, false, false, false, false, false, false, false, false] rfl rfl (any_of HT_.out (by kernel_rfl)) (fun _ _ _ h => h) (Or.inl ⟨by rfl, ?_⟩) ?_ ?_
            rotate_left
            · intro w'
              go_simp
              with_reducible rfl
            rotate_left
            · simp only [Act.put, List.setIfInBounds_toArray, List.set_cons_zero, List.set_cons_succ]
              rfl
            refine take_ (i := 5) (N := some 42) (v := ?_) (a' := ?_) #[true, true, true, true, true, true, false, false, false, false, false, false, false, false, false, false, false, false, false, false, false] rfl rfl (take_ofW HT_.out HW_.out (by kernel_rfl)) (fun _ _ _ h => h) (Or.inl ⟨by rfl, ?_⟩) hHeld ?_ ?_
            rotate_left
            · rintro w' ⟨s0, s1, s2, s3⟩
              go_simp
              with_reducible rfl
            rotate_left
            · simp only [Act.put, List.setIfInBounds_toArray, List.set_cons_zero, List.set_cons_succ]
              rfl
            refine pure_ (i := 6) (N := some 43) (v := ?_) (a' := ?_) #[true, true, true, true, true, true, true, false, false, false, false, false, false, false, false, false, false, false, false, false, false] rfl rfl (any_of HT_.out (by kernel_rfl)) (fun _ _ _ h => h) (Or.inl ⟨by rfl, ?_⟩) ?_ ?_
            rotate_left
            · intro w'
              go_simp
              with_reducible rfl
            rotate_left
            · simp only [Act.put, List.setIfInBounds_toArray, List.set_cons_zero, List.set_cons_succ]
              rfl
            refine take_ (i := 7) (N := some 44) (v := ?_) (a' := ?_) #[true, true, true, true, true, true, true, true, false, false, false, false, false, false, false, false, false, false, false, false, false] rfl rfl (take_ofW HT_.out HW_.out (by kernel_rfl)) (fun _ _ _ h => h) (Or.inl ⟨by rfl, ?_⟩) hHeld ?_ ?_
            rotate_left
            · rintro w' ⟨s0, s1, s2, s3⟩
              go_simp
              with_reducible rfl
            rotate_left
            · simp only [Act.put, List.setIfInBounds_toArray, List.set_cons_zero, List.set_cons_succ]
              rfl
            refine pure_ (i := 8) (N := some 45) (v := ?_) (a' := ?_) #[true, true, true, true, true, true, true, true, true, false, false, false, false, false, false, false, false, false, false, false, false] rfl rfl (any_of HT_.out (by kernel_rfl)) (fun _ _ _ h => h) (Or.inl ⟨by rfl, ?_⟩) ?_ ?_
            rotate_left
            · intro w'
              go_simp
              with_reducible rfl
            rotate_left
            · simp only [Act.put, List.setIfInBounds_toArray, List.set_cons_zero, List.set_cons_succ]
              rfl
            refine pure_ (i := 9) (N := some 46) (v := ?_) (a' := ?_) #[true, true, true, true, true, true, true, true, true, true, false, false, false, false, false, false, false, false, false, false, false] rfl rfl (any_of HT_.out (by kernel_rfl)) (fun _ _ _ h => h) (Or.inl ⟨by rfl, ?_⟩) ?_ ?_
            rotate_left
            · intro w'
              go_simp
              with_reducible rfl
            rotate_left
            · simp only [Act.put, List.setIfInBounds_toArray, List.set_cons_zero, List.set_cons_succ]
              rfl
            refine take_ (i := 10) (N := some 47) (v := ?_) (a' := ?_) #[true, true, true, true, true, true, true, true, true, true, true, false, false, false, false, false, false, false, false, false, false] rfl rfl (take_ofW HT_.out HW_.out (by kernel_rfl)) (fun _ _ _ h => h) (Or.inl ⟨by rfl, ?_⟩) hHeld ?_ ?_
            rotate_left
            · rintro w' ⟨s0, s1, s2, s3⟩
              go_simp
              with_reducible rfl
            rotate_left
            · simp only [Act.put, List.setIfInBounds_toArray, List.set_cons_zero, List.set_cons_succ]
              rfl
            refine pure_ (i := 11) (N := some 48) (v := ?_) (a' := ?_) #[true, true, true, true, true, true, true, true, true, true, true, true, false, false, false, false, false, false, false, false, false] rfl rfl (any_of HT_.out (by kernel_rfl)) (fun _ _ _ h => h) (Or.inl ⟨by rfl, ?_⟩) ?_ ?_
            rotate_left
            · intro w'
              go_simp
              with_reducible rfl
            rotate_left
            · simp only [Act.put, List.setIfInBounds_toArray, List.set_cons_zero, List.set_cons_succ]
              rfl
            refine pure_ (i := 12) (N := some 49) (v := ?_) (a' := ?_) #[true, true, true, true, true, true, true, true, true, true, true, true, true, false, false, false, false, false, false, false, false] rfl rfl (any_of HT_.out (by kernel_rfl)) (fun _ _ _ h => h) (Or.inl ⟨by rfl, ?_⟩) ?_ ?_
            rotate_left
            · intro w'
              go_simp
              with_reducible rfl
            rotate_left
            · simp only [Act.put, List.setIfInBounds_toArray, List.set_cons_zero, List.set_cons_succ]
              rfl
            refine pure_ (i := 13) (N := some 50) (v := ?_) (a' := ?_) #[true, true, true, true, true, true, true, true, true, true, true, true, true, true, false, false, false, false, false, false, false] rfl rfl (any_of HT_.out (by kernel_rfl)) (fun _ _ _ h => h) (Or.inl ⟨by rfl, ?_⟩) ?_ ?_
            rotate_left
            · intro w'
              go_simp
              with_reducible rfl
            rotate_left
            · simp only [Act.put, List.setIfInBounds_toArray, List.set_cons_zero, List.set_cons_succ]
              rfl
            refine pure_ (i := 14) (N := some 51) (v := ?_) (a' := ?_) #[true, true, true, true, true, true, true, true, true, true, true, true, true, true, true, false, false, false, false, false, false] rfl rfl (any_of HT_.out (by kernel_rfl)) (fun _ _ _ h => h) (Or.inl ⟨by rfl, ?_⟩) ?_ ?_
            rotate_left
            · intro w'
              go_simp
              with_reducible rfl
            rotate_left
            · simp only [Act.put, List.setIfInBounds_toArray, List.set_cons_zero, List.set_cons_succ]
              rfl
            refine pure_ (i := 15) (N := some 52) (v := ?_) (a' := ?_) #[true, true, true, true, true, true, true, true, true, true, true, true, true, true, true, true, false, false, false, false, false] rfl rfl (any_of HT_.out (by kernel_rfl)) (fun _ _ _ h => h) (Or.inl ⟨by rfl, ?_⟩) ?_ ?_
            rotate_left
            · intro w'
              go_simp
              with_reducible rfl
            rotate_left
            · simp only [Act.put, List.setIfInBounds_toArray, List.set_cons_zero, List.set_cons_succ]
              rfl
            refine one_ (i := 16) (N := some 53) #[true, true, true, true, true, true, true, true, true, true, true, true, true, true, true, true, true, false, false, false, false] rfl rfl (one_of HT_.out (by kernel_rfl)) (by decide) (fun K hK => ?_)
            refine goes_ Try.func27 (by kernel_rfl) rfl #[.slice A4 row.length c4, .func (.func 28) #[] #[.pointer (some ⟨w2.heap.size, 0, none⟩), .pointer (some ⟨w4.heap.size, 0, none⟩)]] (by rfl) rfl rfl (by (try simp only [List.map_toArray, List.map_cons, List.map_nil]); rfl) ?_
            with_reducible refine (hany _ (below_drew (Below.refl _ _))).mono ?_
            rintro e w6 ⟨rfl, hb6⟩
            have HB6 : Aside0 (Below wr.heap.size wr w6) := ⟨below_step (below_drew (Below.refl _ _)) hb6⟩
            have HR8 := Aside0.mk (Kd.R_below HR.out HB6.out)
            refine ⟨_, rfl, ?_⟩
            obtain ⟨z0, z1, z2, z3⟩ := hHeld
            have a0 := pw_cell_below hb6 z0
            have a1 := pw_cell_below hb6 z1
            have a2 := pw_cell_below hb6 z2
            have a3 := pw_cell_below hb6 z3
            clear hb6 z0 z1 z2 z3
            refine hK.out _ _ ⟨a0, a1, a2, a3⟩ (fun hHeld => ?_)
            clear hK K
            refine norm_ (a' := ?_) ?_ ?_
            rotate_left
            · show Act.put _ (some 53) _ = _
              simp only [Act.put, List.setIfInBounds_toArray, List.set_cons_zero, List.set_cons_succ]
              rfl
            refine pure_ (i := 17) (N := some 54) (v := ?_) (a' := ?_) #[true, true, true, true, true, true, true, true, true, true, true, true, true, true, true, true, true, true, false, false, false] rfl rfl (any_of HT_.out (by kernel_rfl)) (fun _ _ _ h => h) (Or.inl ⟨by rfl, ?_⟩) ?_ ?_
            rotate_left
            · intro w'
              go_simp
              with_reducible rfl
            rotate_left
            · simp only [Act.put, List.setIfInBounds_toArray, List.set_cons_zero, List.set_cons_succ]
              rfl
            refine pure_ (i := 18) (N := some 55) (v := ?_) (a' := ?_) #[true, true, true, true, true, true, true, true, true, true, true, true, true, true, true, true, true, true, true, false, false] rfl rfl (any_of HT_.out (by kernel_rfl)) (fun _ _ _ h => h) (Or.inl ⟨by rfl, ?_⟩) ?_ ?_
            rotate_left
            · intro w'
              go_simp
              with_reducible rfl
            rotate_left
            · simp only [Act.put, List.setIfInBounds_toArray, List.set_cons_zero, List.set_cons_succ]
              rfl
            refine pure_ (i := 19) (N := some 56) (v := ?_) (a' := ?_) #[true, true, true, true, true, true, true, true, true, true, true, true, true, true, true, true, true, true, true, true, false] rfl rfl (any_of HT_.out (by kernel_rfl)) (fun _ _ _ h => h) (Or.inl ⟨by rfl, ?_⟩) ?_ ?_
            rotate_left
            · intro w'
              go_simp
              with_reducible rfl
            rotate_left
            · simp only [Act.put, List.setIfInBounds_toArray, List.set_cons_zero, List.set_cons_succ]
              rfl
            refine last_ (i := 20) (N := none) #[true, true, true, true, true, true, true, true, true, true, true, true, true, true, true, true, true, true, true, true, true] rfl rfl (one_of HT_.out (by kernel_rfl)) (by decide) (fun K hK => ?_)
            obtain ⟨hx8, hf8⟩ := Kd.R_celln false HR8.out (k : Int) (by omega) (by omega)
            rw [Int.toNat_natCast] at hx8 hf8
            refine skip_ (w1 := ?_) (by rfl) rfl ?_ ?_
            rotate_left
            · go_simp
              rfl
            refine hK.out _ _ ?_
            clear hK K hx8 hf8
            refine done_ (done_of HT_.out (by kernel_rfl)) ?_
            go_wp2
            go_roundg k1
            case rel => exact ⟨k + 1, by omega, by first | rfl | rw [ew.out], ⟨by rw [HNV.out]; exact (by have hp := Kd.R_putn HR8.out (k : Int) false; rw [Int.toNat_natCast] at hp; exact hp)⟩, ⟨(below_step HB.out HB6.out).setCell (p := ⟨gN, k, none⟩) HGN.out _⟩, ⟨by rw [cell_far _ _ _ _ (by show w4.heap.size ≠ gN; have := HGL.out; omega)]; exact ((HB6.out.cell (p := ⟨w4.heap.size, 0, none⟩) (World.block_lt_of_cell? wr _ HX.out)).trans HX.out)⟩⟩
            all_goals omega
          | false =>
            obtain rfl : b = true := by rw [hbd]; rfl
            have HNV : Aside0 (nvA n k true (k + 1) = (nvA n k true k).set k true) := HNS
            clear hbd
            go_upto_region 8 with (fail)
            refine start_ (n := 21) (S := fun w' => w'.cell? ⟨w4.heap.size, 0, none⟩ = some (.slice (some ⟨gN, 0, none⟩) n cN) ∧ w'.cell? ⟨gN, k, none⟩ = some (.bool true) ∧ w'.cell? ⟨w2.heap.size, 0, none⟩ = some (.slice (some adM) n cm) ∧ w'.cell? (adM.add k) = some (.bool false)) (ds := [20]) #[false, false, false, false, false, false, false, false, false, false, false, false, false, false, false, false, false, false, false, false, false] (by kernel_rfl) rfl rfl ⟨b9, n0, b7, m0⟩ (fun hHeld => ?_); refine with_tabW rdy_tab8 rdy_bits8 (fun HT_ HW_ => ?_)
            refine take_ (i := 0) (N := some 37) (v := ?_) (a' := ?_) #[true, false, false, false, false, false, false, false, false, false, false, false, false, false, false, false, false, false, false, false, false] rfl rfl (take_ofW HT_.out HW_.out (by kernel_rfl)) (fun _ _ _ h => h) (Or.inl ⟨by rfl, ?_⟩) hHeld ?_ ?_
            rotate_left
            · rintro w' ⟨s0, s1, s2, s3⟩
              go_simp
              with_reducible rfl
            rotate_left
            · simp only [Act.put, List.setIfInBounds_toArray, List.set_cons_zero, List.set_cons_succ]
              rfl
            refine pure_ (i := 1) (N := some 38) (v := ?_) (a' := ?_) #[true, true, false, false, false, false, false, false, false, false, false, false, false, false, false, false, false, false, false, false, false] rfl rfl (any_of HT_.out (by kernel_rfl)) (fun _ _ _ h => h) (Or.inl ⟨by rfl, ?_⟩) ?_ ?_
            rotate_left
            · intro w'
              go_simp
              with_reducible rfl
            rotate_left
            · simp only [Act.put, List.setIfInBounds_toArray, List.set_cons_zero, List.set_cons_succ]
              rfl
            refine take_ (i := 2) (N := some 39) (v := ?_) (a' := ?_) #[true, true, true, false, false, false, false, false, false, false, false, false, false, false, false, false, false, false, false, false, false] rfl rfl (take_ofW HT_.out HW_.out (by kernel_rfl)) (fun _ _ _ h => h) (Or.inl ⟨by rfl, ?_⟩) hHeld ?_ ?_
            rotate_left
            · rintro w' ⟨s0, s1, s2, s3⟩
              go_simp
              with_reducible rfl
            rotate_left
            · simp only [Act.put, List.setIfInBounds_toArray, List.set_cons_zero, List.set_cons_succ]
              rfl
            refine pure_ (i := 3) (N := some 40) (v := ?_) (a' := ?_) #[true, true, true, true, false, false, false, false, false, false, false, false, false, false, false, false, false, false, false, false, false] rfl rfl (any_of HT_.out (by kernel_rfl)) (fun _ _ _ h => h) (Or.inl ⟨by rfl, ?_⟩) ?_ ?_
            rotate_left
            · intro w'
              go_simp
              with_reducible rfl
            rotate_left
            · simp only [Act.put, List.setIfInBounds_toArray, List.set_cons_zero, List.set_cons_succ]
              rfl
            refine pure_ (i := 4) (N := some 41) (v := ?_) (a' := ?_) #[true, true, true, true, true, false, false, false, false, false, false, false, false, false, false, false, false, false, false, false, false] rfl rfl (any_of HT_.out (by kernel_rfl)) (fun _ _ _ h => h) (Or.inl ⟨by rfl, ?_⟩) ?_ ?_
            rotate_left
            · intro w'
              go_simp
              with_reducible rfl
            rotate_left
            · simp only [Act.put, List.setIfInBounds_toArray, List.set_cons_zero, List.set_cons_succ]
              rfl
            refine take_ (i := 5) (N := some 42) (v := ?_) (a' := ?_) #[true, true, true, true, true, true, false, false, false, false, false, false, false, false, false, false, false, false, false, false, false] rfl rfl (take_ofW HT_.out HW_.out (by kernel_rfl)) (fun _ _ _ h => h) (Or.inl ⟨by rfl, ?_⟩) hHeld ?_ ?_
            rotate_left
            · rintro w' ⟨s0, s1, s2, s3⟩
              go_simp
              with_reducible rfl
            rotate_left
            · simp only [Act.put, List.setIfInBounds_toArray, List.set_cons_zero, List.set_cons_succ]
              rfl
            refine pure_ (i := 6) (N := some 43) (v := ?_) (a' := ?_) #[true, true, true, true, true, true, true, false, false, false, false, false, false, false, false, false, false, false, false, false, false] rfl rfl (any_of HT_.out (by kernel_rfl)) (fun _ _ _ h => h) (Or.inl ⟨by rfl, ?_⟩) ?_ ?_
            rotate_left
            · intro w'
              go_simp
              with_reducible rfl
            rotate_left
            · simp only [Act.put, List.setIfInBounds_toArray, List.set_cons_zero, List.set_cons_succ]
              rfl
            refine take_ (i := 7) (N := some 44) (v := ?_) (a' := ?_) #[true, true, true, true, true, true, true, true, false, false, false, false, false, false, false, false, false, false, false, false, false] rfl rfl (take_ofW HT_.out HW_.out (by kernel_rfl)) (fun _ _ _ h => h) (Or.inl ⟨by rfl, ?_⟩) hHeld ?_ ?_
            rotate_left
            · rintro w' ⟨s0, s1, s2, s3⟩
              go_simp
              with_reducible rfl
            rotate_left
            · simp only [Act.put, List.setIfInBounds_toArray, List.set_cons_zero, List.set_cons_succ]
              rfl
            refine pure_ (i := 8) (N := some 45) (v := ?_) (a' := ?_) #[true, true, true, true, true, true, true, true, true, false, false, false, false, false, false, false, false, false, false, false, false] rfl rfl (any_of HT_.out (by kernel_rfl)) (fun _ _ _ h => h) (Or.inl ⟨by rfl, ?_⟩) ?_ ?_
            rotate_left
            · intro w'
              go_simp
              with_reducible rfl
            rotate_left
            · simp only [Act.put, List.setIfInBounds_toArray, List.set_cons_zero, List.set_cons_succ]
              rfl
            refine pure_ (i := 9) (N := some 46) (v := ?_) (a' := ?_) #[true, true, true, true, true, true, true, true, true, true, false, false, false, false, false, false, false, false, false, false, false] rfl rfl (any_of HT_.out (by kernel_rfl)) (fun _ _ _ h => h) (Or.inl ⟨by rfl, ?_⟩) ?_ ?_
            rotate_left
            · intro w'
              go_simp
              with_reducible rfl
            rotate_left
            · simp only [Act.put, List.setIfInBounds_toArray, List.set_cons_zero, List.set_cons_succ]
              rfl
            refine take_ (i := 10) (N := some 47) (v := ?_) (a' := ?_) #[true, true, true, true, true, true, true, true, true, true, true, false, false, false, false, false, false, false, false, false, false] rfl rfl (take_ofW HT_.out HW_.out (by kernel_rfl)) (fun _ _ _ h => h) (Or.inl ⟨by rfl, ?_⟩) hHeld ?_ ?_
            rotate_left
            · rintro w' ⟨s0, s1, s2, s3⟩
              go_simp
              with_reducible rfl
            rotate_left
            · simp only [Act.put, List.setIfInBounds_toArray, List.set_cons_zero, List.set_cons_succ]
              rfl
            refine pure_ (i := 11) (N := some 48) (v := ?_) (a' := ?_) #[true, true, true, true, true, true, true, true, true, true, true, true, false, false, false, false, false, false, false, false, false] rfl rfl (any_of HT_.out (by kernel_rfl)) (fun _ _ _ h => h) (Or.inl ⟨by rfl, ?_⟩) ?_ ?_
            rotate_left
            · intro w'
              go_simp
              with_reducible rfl
            rotate_left
            · simp only [Act.put, List.setIfInBounds_toArray, List.set_cons_zero, List.set_cons_succ]
              rfl
            refine pure_ (i := 12) (N := some 49) (v := ?_) (a' := ?_) #[true, true, true, true, true, true, true, true, true, true, true, true, true, false, false, false, false, false, false, false, false] rfl rfl (any_of HT_.out (by kernel_rfl)) (fun _ _ _ h => h) (Or.inl ⟨by rfl, ?_⟩) ?_ ?_
            rotate_left
            · intro w'
              go_simp
              with_reducible rfl
            rotate_left
            · simp only [Act.put, List.setIfInBounds_toArray, List.set_cons_zero, List.set_cons_succ]
              rfl
            refine pure_ (i := 13) (N := some 50) (v := ?_) (a' := ?_) #[true, true, true, true, true, true, true, true, true, true, true, true, true, true, false, false, false, false, false, false, false] rfl rfl (any_of HT_.out (by kernel_rfl)) (fun _ _ _ h => h) (Or.inl ⟨by rfl, ?_⟩) ?_ ?_
            rotate_left
            · intro w'
              go_simp
              with_reducible rfl
            rotate_left
            · simp only [Act.put, List.setIfInBounds_toArray, List.set_cons_zero, List.set_cons_succ]
              rfl
            refine pure_ (i := 14) (N := some 51) (v := ?_) (a' := ?_) #[true, true, true, true, true, true, true, true, true, true, true, true, true, true, true, false, false, false, false, false, false] rfl rfl (any_of HT_.out (by kernel_rfl)) (fun _ _ _ h => h) (Or.inl ⟨by rfl, ?_⟩) ?_ ?_
            rotate_left
            · intro w'
              go_simp
              with_reducible rfl
            rotate_left
            · simp only [Act.put, List.setIfInBounds_toArray, List.set_cons_zero, List.set_cons_succ]
              rfl
            refine pure_ (i := 15) (N := some 52) (v := ?_) (a' := ?_) #[true, true, true, true, true, true, true, true, true, true, true, true, true, true, true, true, false, false, false, false, false] rfl rfl (any_of HT_.out (by kernel_rfl)) (fun _ _ _ h => h) (Or.inl ⟨by rfl, ?_⟩) ?_ ?_
            rotate_left
            · intro w'
              go_simp
              with_reducible rfl
            rotate_left
            · simp only [Act.put, List.setIfInBounds_toArray, List.set_cons_zero, List.set_cons_succ]
              rfl
            refine one_ (i := 16) (N := some 53) #[true, true, true, true, true, true, true, true, true, true, true, true, true, true, true, true, true, false, false, false, false] rfl rfl (one_of HT_.out (by kernel_rfl)) (by decide) (fun K hK => ?_)
            refine goes_ Try.func27 (by kernel_rfl) rfl #[.slice A4 row.length c4, .func (.func 28) #[] #[.pointer (some ⟨w2.heap.size, 0, none⟩), .pointer (some ⟨w4.heap.size, 0, none⟩)]] (by rfl) rfl rfl (by (try simp only [List.map_toArray, List.map_cons, List.map_nil]); rfl) ?_
            with_reducible refine (hany _ (below_drew (Below.refl _ _))).mono ?_
            rintro e w6 ⟨rfl, hb6⟩
            have HB6 : Aside0 (Below wr.heap.size wr w6) := ⟨below_step (below_drew (Below.refl _ _)) hb6⟩
            have HR8 := Aside0.mk (Kd.R_below HR.out HB6.out)
            refine ⟨_, rfl, ?_⟩
            obtain ⟨z0, z1, z2, z3⟩ := hHeld
            have a0 := pw_cell_below hb6 z0
            have a1 := pw_cell_below hb6 z1
            have a2 := pw_cell_below hb6 z2
            have a3 := pw_cell_below hb6 z3
            clear hb6 z0 z1 z2 z3
            refine hK.out _ _ ⟨a0, a1, a2, a3⟩ (fun hHeld => ?_)
            clear hK K
            refine norm_ (a' := ?_) ?_ ?_
            rotate_left
            · show Act.put _ (some 53) _ = _
              simp only [Act.put, List.setIfInBounds_toArray, List.set_cons_zero, List.set_cons_succ]
              rfl
            refine pure_ (i := 17) (N := some 54) (v := ?_) (a' := ?_) #[true, true, true, true, true, true, true, true, true, true, true, true, true, true, true, true, true, true, false, false, false] rfl rfl (any_of HT_.out (by kernel_rfl)) (fun _ _ _ h => h) (Or.inl ⟨by rfl, ?_⟩) ?_ ?_
            rotate_left
            · intro w'
              go_simp
              with_reducible rfl
            rotate_left
            · simp only [Act.put, List.setIfInBounds_toArray, List.set_cons_zero, List.set_cons_succ]
              rfl
            refine pure_ (i := 18) (N := some 55) (v := ?_) (a' := ?_) #[true, true, true, true, true, true, true, true, true, true, true, true, true, true, true, true, true, true, true, false, false] rfl rfl (any_of HT_.out (by kernel_rfl)) (fun _ _ _ h => h) (Or.inl ⟨by rfl, ?_⟩) ?_ ?_
            rotate_left
            · intro w'
              go_simp
              with_reducible rfl
            rotate_left
            · simp only [Act.put, List.setIfInBounds_toArray, List.set_cons_zero, List.set_cons_succ]
              rfl
            refine pure_ (i := 19) (N := some 56) (v := ?_) (a' := ?_) #[true, true, true, true, true, true, true, true, true, true, true, true, true, true, true, true, true, true, true, true, false] rfl rfl (any_of HT_.out (by kernel_rfl)) (fun _ _ _ h => h) (Or.inl ⟨by rfl, ?_⟩) ?_ ?_
            rotate_left
            · intro w'
              go_simp
              with_reducible rfl
            rotate_left
            · simp only [Act.put, List.setIfInBounds_toArray, List.set_cons_zero, List.set_cons_succ]
              rfl
            refine last_ (i := 20) (N := none) #[true, true, true, true, true, true, true, true, true, true, true, true, true, true, true, true, true, true, true, true, true] rfl rfl (one_of HT_.out (by kernel_rfl)) (by decide) (fun K hK => ?_)
            obtain ⟨hx8, hf8⟩ := Kd.R_celln false HR8.out (k : Int) (by omega) (by omega)
            rw [Int.toNat_natCast] at hx8 hf8
            refine skip_ (w1 := ?_) (by rfl) rfl ?_ ?_
            rotate_left
            · go_simp
              rfl
            refine hK.out _ _ ?_
            clear hK K hx8 hf8
            refine done_ (done_of HT_.out (by kernel_rfl)) ?_
            go_wp2
            go_roundg k1
            case rel => exact ⟨k + 1, by omega, by first | rfl | rw [ew.out], ⟨by rw [HNV.out]; exact (by have hp := Kd.R_putn HR8.out (k : Int) true; rw [Int.toNat_natCast] at hp; exact hp)⟩, ⟨(below_step HB.out HB6.out).setCell (p := ⟨gN, k, none⟩) HGN.out _⟩, ⟨by rw [cell_far _ _ _ _ (by show w4.heap.size ≠ gN; have := HGL.out; omega)]; exact ((HB6.out.cell (p := ⟨w4.heap.size, 0, none⟩) (World.block_lt_of_cell? wr _ HX.out)).trans HX.out)⟩⟩
            all_goals omega
      · rw [if_neg hkX] at n0
        have HNV : Aside0 (nvA n X b (k + 1) = (nvA n X b k).set k false) := ⟨HNO.out k hkX hkn⟩
        clear hz hwas hgk hC1 q1 q2 hl1
        go_upto_region 8 with (fail)
        refine start_ (n := 21) (S := fun w' => w'.cell? ⟨w4.heap.size, 0, none⟩ = some (.slice (some ⟨gN, 0, none⟩) n cN) ∧ w'.cell? ⟨gN, k, none⟩ = some (.bool false)) (ds := [20]) #[false, false, false, false, false, false, false, false, false, false, false, false, false, false, false, false, false, false, false, false, false] (by kernel_rfl) rfl rfl ⟨b9, n0⟩ (fun hHeld => ?_); refine with_tabW rdy_tab8 rdy_bits8 (fun HT_ HW_ => ?_)
        refine take_ (i := 0) (N := some 37) (v := ?_) (a' := ?_) #[true, false, false, false, false, false, false, false, false, false, false, false, false, false, false, false, false, false, false, false, false] rfl rfl (take_ofW HT_.out HW_.out (by kernel_rfl)) (fun _ _ _ h => h) (Or.inl ⟨by rfl, ?_⟩) hHeld ?_ ?_
        rotate_left
        · rintro w' ⟨s0, s1⟩
          go_simp
          with_reducible rfl
        rotate_left
        · simp only [Act.put, List.setIfInBounds_toArray, List.set_cons_zero, List.set_cons_succ]
          rfl
        refine pure_ (i := 1) (N := some 38) (v := ?_) (a' := ?_) #[true, true, false, false, false, false, false, false, false, false, false, false, false, false, false, false, false, false, false, false, false] rfl rfl (any_of HT_.out (by kernel_rfl)) (fun _ _ _ h => h) (Or.inl ⟨by rfl, ?_⟩) ?_ ?_
        rotate_left
        · intro w'
          go_simp
          with_reducible rfl
        rotate_left
        · simp only [Act.put, List.setIfInBounds_toArray, List.set_cons_zero, List.set_cons_succ]
          rfl
        refine take_ (i := 2) (N := some 39) (v := ?_) (a' := ?_) #[true, true, true, false, false, false, false, false, false, false, false, false, false, false, false, false, false, false, false, false, false] rfl rfl (take_ofW HT_.out HW_.out (by kernel_rfl)) (fun _ _ _ h => h) (Or.inl ⟨by rfl, ?_⟩) hHeld ?_ ?_
        rotate_left
        · rintro w' ⟨s0, s1⟩
          go_simp
          with_reducible rfl
        rotate_left
        · simp only [Act.put, List.setIfInBounds_toArray, List.set_cons_zero, List.set_cons_succ]
          rfl
        refine pure_ (i := 3) (N := some 40) (v := ?_) (a' := ?_) #[true, true, true, true, false, false, false, false, false, false, false, false, false, false, false, false, false, false, false, false, false] rfl rfl (any_of HT_.out (by kernel_rfl)) (fun _ _ _ h => h) (Or.inl ⟨by rfl, ?_⟩) ?_ ?_
        rotate_left
        · intro w'
          go_simp
          with_reducible rfl
        rotate_left
        · simp only [Act.put, List.setIfInBounds_toArray, List.set_cons_zero, List.set_cons_succ]
          rfl
        refine pure_ (i := 4) (N := some 41) (v := ?_) (a' := ?_) #[true, true, true, true, true, false, false, false, false, false, false, false, false, false, false, false, false, false, false, false, false] rfl rfl (any_of HT_.out (by kernel_rfl)) (fun _ _ _ h => h) (Or.inl ⟨by rfl, ?_⟩) ?_ ?_
        rotate_left
        · intro w'
          go_simp
          with_reducible rfl
        rotate_left
        · simp only [Act.put, List.setIfInBounds_toArray, List.set_cons_zero, List.set_cons_succ]
          rfl
        refine take_ (i := 5) (N := some 42) (v := ?_) (a' := ?_) #[true, true, true, true, true, true, false, false, false, false, false, false, false, false, false, false, false, false, false, false, false] rfl rfl (take_ofW HT_.out HW_.out (by kernel_rfl)) (fun _ _ _ h => h) (Or.inl ⟨by rfl, ?_⟩) hHeld ?_ ?_
        rotate_left
        · rintro w' ⟨s0, s1⟩
          go_simp
          with_reducible rfl
        rotate_left
        · simp only [Act.put, List.setIfInBounds_toArray, List.set_cons_zero, List.set_cons_succ]
          rfl
        refine pure_ (i := 6) (N := some 43) (v := ?_) (a' := ?_) #[true, true, true, true, true, true, true, false, false, false, false, false, false, false, false, false, false, false, false, false, false] rfl rfl (any_of HT_.out (by kernel_rfl)) (fun _ _ _ h => h) (Or.inl ⟨by rfl, ?_⟩) ?_ ?_
        rotate_left
        · intro w'
          go_simp
          with_reducible rfl
        rotate_left
        · simp only [Act.put, List.setIfInBounds_toArray, List.set_cons_zero, List.set_cons_succ]
          rfl
        refine pure_ (i := 7) (N := some 44) (v := undef) (a' := ?_) #[true, true, true, true, true, true, true, true, false, false, false, false, false, false, false, false, false, false, false, false, false] rfl rfl (any_of HT_.out (by kernel_rfl)) (fun _ _ _ h => h) (Or.inr ⟨by rfl, rfl⟩) ?_ ?_
        rotate_left
        · simp only [Act.put, List.setIfInBounds_toArray, List.set_cons_zero, List.set_cons_succ]
          rfl
        refine pure_ (i := 8) (N := some 45) (v := undef) (a' := ?_) #[true, true, true, true, true, true, true, true, true, false, false, false, false, false, false, false, false, false, false, false, false] rfl rfl (any_of HT_.out (by kernel_rfl)) (fun _ _ _ h => h) (Or.inr ⟨by rfl, rfl⟩) ?_ ?_
        rotate_left
        · simp only [Act.put, List.setIfInBounds_toArray, List.set_cons_zero, List.set_cons_succ]
          rfl
        refine pure_ (i := 9) (N := some 46) (v := undef) (a' := ?_) #[true, true, true, true, true, true, true, true, true, true, false, false, false, false, false, false, false, false, false, false, false] rfl rfl (any_of HT_.out (by kernel_rfl)) (fun _ _ _ h => h) (Or.inr ⟨by rfl, rfl⟩) ?_ ?_
        rotate_left
        · simp only [Act.put, List.setIfInBounds_toArray, List.set_cons_zero, List.set_cons_succ]
          rfl
        refine pure_ (i := 10) (N := some 47) (v := undef) (a' := ?_) #[true, true, true, true, true, true, true, true, true, true, true, false, false, false, false, false, false, false, false, false, false] rfl rfl (any_of HT_.out (by kernel_rfl)) (fun _ _ _ h => h) (Or.inr ⟨by rfl, rfl⟩) ?_ ?_
        rotate_left
        · simp only [Act.put, List.setIfInBounds_toArray, List.set_cons_zero, List.set_cons_succ]
          rfl
        refine pure_ (i := 11) (N := some 48) (v := undef) (a' := ?_) #[true, true, true, true, true, true, true, true, true, true, true, true, false, false, false, false, false, false, false, false, false] rfl rfl (any_of HT_.out (by kernel_rfl)) (fun _ _ _ h => h) (Or.inr ⟨by rfl, rfl⟩) ?_ ?_
        rotate_left
        · simp only [Act.put, List.setIfInBounds_toArray, List.set_cons_zero, List.set_cons_succ]
          rfl
        refine pure_ (i := 12) (N := some 49) (v := ?_) (a' := ?_) #[true, true, true, true, true, true, true, true, true, true, true, true, true, false, false, false, false, false, false, false, false] rfl rfl (any_of HT_.out (by kernel_rfl)) (fun _ _ _ h => h) (Or.inl ⟨by rfl, ?_⟩) ?_ ?_
        rotate_left
        · intro w'
          go_simp
          with_reducible rfl
        rotate_left
        · simp only [Act.put, List.setIfInBounds_toArray, List.set_cons_zero, List.set_cons_succ]
          rfl
        refine pure_ (i := 13) (N := some 50) (v := ?_) (a' := ?_) #[true, true, true, true, true, true, true, true, true, true, true, true, true, true, false, false, false, false, false, false, false] rfl rfl (any_of HT_.out (by kernel_rfl)) (fun _ _ _ h => h) (Or.inl ⟨by rfl, ?_⟩) ?_ ?_
        rotate_left
        · intro w'
          go_simp
          with_reducible rfl
        rotate_left
        · simp only [Act.put, List.setIfInBounds_toArray, List.set_cons_zero, List.set_cons_succ]
          rfl
        refine pure_ (i := 14) (N := some 51) (v := undef) (a' := ?_) #[true, true, true, true, true, true, true, true, true, true, true, true, true, true, true, false, false, false, false, false, false] rfl rfl (any_of HT_.out (by kernel_rfl)) (fun _ _ _ h => h) (Or.inr ⟨by rfl, rfl⟩) ?_ ?_
        rotate_left
        · simp only [Act.put, List.setIfInBounds_toArray, List.set_cons_zero, List.set_cons_succ]
          rfl
        refine pure_ (i := 15) (N := some 52) (v := undef) (a' := ?_) #[true, true, true, true, true, true, true, true, true, true, true, true, true, true, true, true, false, false, false, false, false] rfl rfl (any_of HT_.out (by kernel_rfl)) (fun _ _ _ h => h) (Or.inr ⟨by rfl, rfl⟩) ?_ ?_
        rotate_left
        · simp only [Act.put, List.setIfInBounds_toArray, List.set_cons_zero, List.set_cons_succ]
          rfl
        refine pure_ (i := 16) (N := some 53) (v := undef) (a' := ?_) #[true, true, true, true, true, true, true, true, true, true, true, true, true, true, true, true, true, false, false, false, false] rfl rfl (any_of HT_.out (by kernel_rfl)) (fun _ _ _ h => h) (Or.inr ⟨by rfl, rfl⟩) ?_ ?_
        rotate_left
        · simp only [Act.put, List.setIfInBounds_toArray, List.set_cons_zero, List.set_cons_succ]
          rfl
        refine pure_ (i := 17) (N := some 54) (v := undef) (a' := ?_) #[true, true, true, true, true, true, true, true, true, true, true, true, true, true, true, true, true, true, false, false, false] rfl rfl (any_of HT_.out (by kernel_rfl)) (fun _ _ _ h => h) (Or.inr ⟨by rfl, rfl⟩) ?_ ?_
        rotate_left
        · simp only [Act.put, List.setIfInBounds_toArray, List.set_cons_zero, List.set_cons_succ]
          rfl
        refine pure_ (i := 18) (N := some 55) (v := ?_) (a' := ?_) #[true, true, true, true, true, true, true, true, true, true, true, true, true, true, true, true, true, true, true, false, false] rfl rfl (any_of HT_.out (by kernel_rfl)) (fun _ _ _ h => h) (Or.inl ⟨by rfl, ?_⟩) ?_ ?_
        rotate_left
        · intro w'
          go_simp
          with_reducible rfl
        rotate_left
        · simp only [Act.put, List.setIfInBounds_toArray, List.set_cons_zero, List.set_cons_succ]
          rfl
        refine pure_ (i := 19) (N := some 56) (v := ?_) (a' := ?_) #[true, true, true, true, true, true, true, true, true, true, true, true, true, true, true, true, true, true, true, true, false] rfl rfl (any_of HT_.out (by kernel_rfl)) (fun _ _ _ h => h) (Or.inl ⟨by rfl, ?_⟩) ?_ ?_
        rotate_left
        · intro w'
          go_simp
          with_reducible rfl
        rotate_left
        · simp only [Act.put, List.setIfInBounds_toArray, List.set_cons_zero, List.set_cons_succ]
          rfl
        refine last_ (i := 20) (N := none) #[true, true, true, true, true, true, true, true, true, true, true, true, true, true, true, true, true, true, true, true, true] rfl rfl (one_of HT_.out (by kernel_rfl)) (by decide) (fun K hK => ?_)
        obtain ⟨hx8, hf8⟩ := Kd.R_celln false HR.out (k : Int) (by omega) (by omega)
        rw [Int.toNat_natCast] at hx8 hf8
        refine skip_ (w1 := ?_) (by rfl) rfl ?_ ?_
        rotate_left
        · go_simp
          rfl
        refine hK.out _ _ ?_
        clear hK K hx8 hf8
        refine done_ (done_of HT_.out (by kernel_rfl)) ?_
        go_wp2
        go_roundg k1
        case rel => exact ⟨k + 1, by omega, by first | rfl | rw [ew.out], ⟨by rw [HNV.out]; exact Kd.R_drew (by have hp := Kd.R_putn HR.out (k : Int) false; rw [Int.toNat_natCast] at hp; exact hp)⟩, ⟨below_drew (HB.out.setCell (p := ⟨gN, k, none⟩) HGN.out _)⟩, ⟨(cell_far wr ⟨gN, k, none⟩ _ ⟨w4.heap.size, 0, none⟩ (by show w4.heap.size ≠ gN; have := HGL.out; omega)).trans HX.out⟩⟩
        all_goals omega
    | zero =>
      obtain rfl : k = n := by omega
      have f1 : decide ((k : Int) < (k : Int)) = false := by simp
      have b9 := HX.out
      have hC9 := (Kd.R_reads' HR.out).2.2
      have hBall := (HBW3.out).trans (HB.out.mono HBW3.out.size)
      have hcol : ∀ W, W = wr.alloc (.cells #[.slice (some ⟨gN, 0, none⟩) k cN] 59) → Calls Try.prog 29 #[.func (.func 43) #[] #[.pointer (some ⟨wr.heap.size, 0, none⟩)]] W fun e w' => (∃ v, e = .returned v ∧ Kd.R (Kd.int .i64) 3 w' W.heap.size (fun _ => True) v rr) ∧ Below W.heap.size W w' := fun W hW => by
        rw [← HNE.out]
        subst hW
        exact collect_calls wr.heap.size (some ⟨gN, 0, none⟩) cN (nvA k X b k) _ (Kd.C_alloc hC9 _) (by rw [HNL.out]; exact hn1) (by simp) (by rw [HNL.out]; exact cell_one_new _ _ _ 0 _ rfl)
      clear hC9
      go_wp2_with (first | (go_at_call 30; with_reducible refine (those_calls _ _ _ _).mono ?_; rintro e w6 ⟨rfl, hw6⟩; have HW6 := Aside0.mk hw6; clear hw6) | (go_at_call 29; with_reducible refine (hcol w6 HW6.out).mono ?_; rintro e w7 ⟨⟨v7, rfl, ho7⟩, hb7⟩; have HO7 := Aside0.mk ho7; have HB7' := Aside0.mk hb7; clear ho7 hb7))
      go_ret
      have hb6 : Below wr.heap.size wr w6 := by rw [HW6.out]; exact (Below.refl _ _).alloc (Nat.le_refl _) _
      have hbf := below_step (below_step hBall hb6) HB7'.out
      exact ⟨⟨v7, rfl, Kd.R_lower HO7.out (below_step hBall hb6).size⟩, hbf⟩
theorem graph_Ready.calls (A0 : Option Addr) (c0 : Nat) (l0 : List (List Int)) (A1 : Option Addr) (c1 : Nat) (l1 : List Int) (A2 : Option Addr) (c2 : Nat) (l2 : List Int) (r : List Int) (w : World) (hr0 : Kd.C (Kd.slice 3 (Kd.int .i64)) w A0 l0.length l0) (hc0 : l0.length ≤ c0) (hr1 : Kd.C (Kd.int .i64) w A1 l1.length l1) (hc1 : l1.length ≤ c1) (hr2 : Kd.C (Kd.int .i64) w A2 l2.length l2) (hc2 : l2.length ≤ c2) (h : graph_Ready.f l0 l1 l2 = some r) :
    Calls Try.prog 8 #[.slice A0 l0.length c0, .slice A1 l1.length c1, .slice A2 l2.length c2] w fun e w' => ∃ v0_ : Value, e = .returned v0_ ∧ Kd.R (Kd.int .i64) 3 w' w.heap.size (fun _ => True) v0_ r ∧ Below w.heap.size w w' := by
  match l2, h with
  | [x], h =>
    by_cases hd : ReadyS l0 l1 x
    · rw [show graph_Ready.f l0 l1 [x] = if ReadyS l0 l1 x then some (if canS l0 l1 x = true then [x] else []) else none from rfl, if_pos hd] at h
      obtain rfl := Option.some.inj h
      obtain ⟨X, rfl⟩ := Int.eq_ofNat_of_zero_le hd.2.2.2.1
      refine (ready_one A0 c0 l0 A1 c1 l1 A2 c2 X w hr0 hc0 hr1 hc1 hr2 hc2 hd).mono ?_
      rintro e w' ⟨⟨v, he, hR⟩, hb⟩
      exact ⟨v, he, hR, hb⟩
    · rw [show graph_Ready.f l0 l1 [x] = if ReadyS l0 l1 x then some (if canS l0 l1 x = true then [x] else []) else none from rfl, if_neg hd] at h
      cases h
  | [], h => cases h
  | _ :: _ :: _, h => cases h
end Go.Proofs.Ytokocakdcdcdgaa.PG
