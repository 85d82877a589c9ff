import Derived.Test.YtlmnagbfmkaglaaC3
/-! Contracts of the package cache: straight. -/
namespace Go.Proofs.Ytlmnagbfmkaglaa.CC
open Go.RowKit Go.Proofs.Ytlmnagbfmkaglaa.PG Go.Proofs.YtlmnagbfmkaglaaW.PrintWords Go.Proofs.YtlmnagbfmkaglaaW.PrintLast Go.Proofs.YtlmnagbfmkaglaaW.PrintMore
attribute [local go_sem] Oper.semAt_some

def straight_T0 : Bool × List (List Nat × List Nat) := (true, [([], []), ([], []), ([1], [1]), ([2], [2]), ([3], [3]), ([], []), ([5], [5]), ([6], [6]), ([7], [7]), ([4, 8], [4, 8]), ([], []), ([10], [10]), ([11], [11]), ([12], [12]), ([], []), ([14], [14]), ([15], [15]), ([16], [16]), ([13, 17], [13, 17]), ([9, 18], [9, 18]), ([19], [19]), ([0, 0, 1, 2, 3, 4, 5, 6, 7, 8, 9, 10, 11, 12, 13, 14, 15, 16, 17, 18, 19, 20], [0]), ([21, 0, 1, 2, 3, 4, 5, 6, 7, 8, 9, 10, 11, 12, 13, 14, 15, 16, 17, 18, 19, 20], [21]), ([22, 20, 20, 0, 1, 2, 3, 4, 5, 6, 7, 8, 9, 10, 11, 12, 13, 14, 15, 16, 17, 18, 19, 20], [20, 22])])
def straight_B0 : List Nat := [0, 0, 2, 6, 14, 0, 32, 96, 224, 510, 0, 1024, 3072, 7168, 0, 16384, 49152, 114688, 261120, 524286, 1048574, 2097151, 4194303, 8388607]
theorem straight_tab0 : rtab .any (opsOf Try.f26 0) = straight_T0 := by kernel_rfl
theorem straight_bits0 : waitsOk straight_T0.2 straight_B0 = true := by kernel_rfl
theorem row_shape {B : Nat} {P : Nat → Prop} {w : World} {v : Value} {row : List S59} (hR : Kd.R k59 59 w B P v row) : (v = .slice none 0 0 ∧ row = []) ∨ ∃ gr cap, v = .slice (some ⟨gr, 0, none⟩) row.length cap ∧ row.length ≤ cap ∧ Kd.C k59 w (some ⟨gr, 0, none⟩) row.length row := by
  obtain ⟨inner, ho⟩ := Kd.R_own hR
  rcases ho.2 with ⟨rfl, h0⟩ | ⟨g, cap, cur, rfl, _⟩
  · exact .inl ⟨rfl, List.eq_nil_of_length_eq_zero (by omega)⟩
  · have := Kd.R_reads' hR
    exact .inr ⟨g, cap, rfl, this.2.1, this.2.2⟩
def rot (row : List S59) (h : Nat) : List S59 := row.drop h ++ row.take h
set_option maxHeartbeats 2000000 in
set_option maxRecDepth 100000 in
theorem straight_some (g gr cap : Nat) (most : Int) (hand : Nat) (row : List S59) (w : World) (hg : w.heap[g]? = some (.cells #[.int .i64 most, .slice (some ⟨gr, 0, none⟩) row.length cap, .int .i64 (hand : Int)] 55 (0, 0))) (hC : Kd.C k59 w (some ⟨gr, 0, none⟩) row.length row) (hcap : row.length ≤ cap) (hh : hand ≤ row.length) (hn : row.length < 1000) :
    Calls Try.prog 26 #[.pointer (some ⟨g, 0, none⟩)] w fun e w' => e = .returned (.tuple #[]) ∧ ∃ w6 v, w' = (w6.setCell ⟨g, 1, none⟩ v).setCell ⟨g, 2, none⟩ (.int .i64 0) ∧ Below w.heap.size w w6 ∧ Kd.R k59 59 w6 w.heap.size (fun _ => True) v (rot row hand) := by
  have HG := Aside0.mk hg
  have HC := Aside0.mk hC
  clear hg hC
  have p1 : (0 ≤ (hand : Int)) = True := eq_true (by omega)
  have p2 : ((hand : Int) ≤ (row.length : Int)) = True := eq_true (by omega)
  have p3 : ((hand : Int) ≤ (cap : Int)) = True := eq_true (by omega)
  have p4 : ((row.length : Int) ≤ (cap : Int)) = True := eq_true (by omega)
  go_enter Try.func26, Try.ntmps26
  try go_wp2
  refine start_ (n := 24) (S := fun w' => w'.cell? ⟨g, 1, none⟩ = some (.slice (some ⟨gr, 0, none⟩) row.length cap) ∧ w'.cell? ⟨g, 2, none⟩ = some (.int .i64 (hand : Int))) (ds := [23]) #[false, false, false, false, false, false, false, false, false, false, false, false, false, false, false, false, false, false, false, false, false, false, false, false] (by kernel_rfl) rfl rfl ⟨(blk_cell (blk_drew HG.out) 1).trans rfl, (blk_cell (blk_drew HG.out) 2).trans rfl⟩ (fun hHeld => ?_); refine with_tabW straight_tab0 straight_bits0 (fun HT_ HW_ => ?_)
  refine pure_ (i := 0) (N := some 2) (v := ?_) (a' := ?_) #[true, false, false, false, false, false, false, false, false, false, false, false, false, false, false, false, false, false, false, false, false, false, false, false] rfl rfl (any_of HT_.out (by kernel_rfl)) (fun _ _ _ h => h) (Or.inl ⟨by rfl, ?_⟩) ?_ ?_
  rotate_left
  · intro w'
    go_simp
    with_reducible rfl
  rotate_left
  · simp only [Act.put, List.setIfInBounds_toArray, List.set_cons_zero, List.set_cons_succ, i64_w, i32_w]
    rfl
  refine pure_ (i := 1) (N := some 3) (v := ?_) (a' := ?_) #[true, true, false, false, false, false, false, false, false, false, false, false, false, false, false, false, false, false, false, false, false, false, false, false] rfl rfl (any_of HT_.out (by kernel_rfl)) (fun _ _ _ h => h) (Or.inl ⟨by rfl, ?_⟩) ?_ ?_
  rotate_left
  · intro w'
    go_simp
    with_reducible rfl
  rotate_left
  · simp only [Act.put, List.setIfInBounds_toArray, List.set_cons_zero, List.set_cons_succ, i64_w, i32_w]
    rfl
  refine pure_ (i := 2) (N := some 4) (v := ?_) (a' := ?_) #[true, true, true, false, false, false, false, false, false, false, false, false, false, false, false, false, false, false, false, false, false, false, false, false] rfl rfl (any_of HT_.out (by kernel_rfl)) (fun _ _ _ h => h) (Or.inl ⟨by rfl, ?_⟩) ?_ ?_
  rotate_left
  · intro w'
    go_simp
    with_reducible rfl
  rotate_left
  · simp only [Act.put, List.setIfInBounds_toArray, List.set_cons_zero, List.set_cons_succ, i64_w, i32_w]
    rfl
  refine pure_ (i := 3) (N := some 5) (v := ?_) (a' := ?_) #[true, true, true, true, false, false, false, false, false, false, false, false, false, false, false, false, false, false, false, false, false, false, false, false] rfl rfl (any_of HT_.out (by kernel_rfl)) (fun _ _ _ h => h) (Or.inl ⟨by rfl, ?_⟩) ?_ ?_
  rotate_left
  · intro w'
    go_simp
    with_reducible rfl
  rotate_left
  · simp only [Act.put, List.setIfInBounds_toArray, List.set_cons_zero, List.set_cons_succ, i64_w, i32_w]
    rfl
  refine take_ (i := 4) (N := some 6) (v := ?_) (a' := ?_) #[true, true, true, true, true, false, false, false, false, false, false, false, false, false, false, false, false, false, false, false, false, false, false, false] rfl rfl (take_ofW HT_.out HW_.out (by kernel_rfl)) (fun _ _ _ h => h) (Or.inl ⟨by rfl, ?_⟩) hHeld ?_ ?_
  rotate_left
  · rintro w' ⟨s0, s1⟩
    go_simp
    with_reducible rfl
  rotate_left
  · simp only [Act.put, List.setIfInBounds_toArray, List.set_cons_zero, List.set_cons_succ, i64_w, i32_w]
    rfl
  refine pure_ (i := 5) (N := some 7) (v := ?_) (a' := ?_) #[true, true, true, true, true, true, false, false, false, false, false, false, false, false, false, false, false, false, false, false, false, false, false, false] rfl rfl (any_of HT_.out (by kernel_rfl)) (fun _ _ _ h => h) (Or.inl ⟨by rfl, ?_⟩) ?_ ?_
  rotate_left
  · intro w'
    go_simp
    with_reducible rfl
  rotate_left
  · simp only [Act.put, List.setIfInBounds_toArray, List.set_cons_zero, List.set_cons_succ, i64_w, i32_w]
    rfl
  refine pure_ (i := 6) (N := some 8) (v := ?_) (a' := ?_) #[true, true, true, true, true, true, true, false, false, false, false, false, false, false, false, false, false, false, false, false, false, false, false, false] rfl rfl (any_of HT_.out (by kernel_rfl)) (fun _ _ _ h => h) (Or.inl ⟨by rfl, ?_⟩) ?_ ?_
  rotate_left
  · intro w'
    go_simp
    with_reducible rfl
  rotate_left
  · simp only [Act.put, List.setIfInBounds_toArray, List.set_cons_zero, List.set_cons_succ, i64_w, i32_w]
    rfl
  refine pure_ (i := 7) (N := some 9) (v := ?_) (a' := ?_) #[true, true, true, true, true, true, true, true, false, false, false, false, false, false, false, false, false, false, false, false, false, false, false, false] rfl rfl (any_of HT_.out (by kernel_rfl)) (fun _ _ _ h => h) (Or.inl ⟨by rfl, ?_⟩) ?_ ?_
  rotate_left
  · intro w'
    go_simp
    with_reducible rfl
  rotate_left
  · simp only [Act.put, List.setIfInBounds_toArray, List.set_cons_zero, List.set_cons_succ, i64_w, i32_w]
    rfl
  refine take_ (i := 8) (N := some 10) (v := ?_) (a' := ?_) #[true, true, true, true, true, true, true, true, true, false, false, false, false, false, false, false, false, false, false, false, false, false, false, false] rfl rfl (take_ofW HT_.out HW_.out (by kernel_rfl)) (fun _ _ _ h => h) (Or.inl ⟨by rfl, ?_⟩) hHeld ?_ ?_
  rotate_left
  · rintro w' ⟨s0, s1⟩
    go_simp
    with_reducible rfl
  rotate_left
  · simp only [Act.put, List.setIfInBounds_toArray, List.set_cons_zero, List.set_cons_succ, i64_w, i32_w]
    rfl
  refine pure_ (i := 9) (N := some 11) (v := ?_) (a' := ?_) #[true, true, true, true, true, true, true, true, true, true, false, false, false, false, false, false, false, false, false, false, false, false, false, false] rfl rfl (any_of HT_.out (by kernel_rfl)) (fun _ _ _ h => h) (Or.inl ⟨by rfl, ?_⟩) ?_ ?_
  rotate_left
  · intro w'
    go_simp
    with_reducible rfl
  rotate_left
  · simp only [Act.put, List.setIfInBounds_toArray, List.set_cons_zero, List.set_cons_succ, i64_w, i32_w]
    rfl
  refine pure_ (i := 10) (N := some 12) (v := ?_) (a' := ?_) #[true, true, true, true, true, true, true, true, true, true, true, false, false, false, false, false, false, false, false, false, false, false, false, false] rfl rfl (any_of HT_.out (by kernel_rfl)) (fun _ _ _ h => h) (Or.inl ⟨by rfl, ?_⟩) ?_ ?_
  rotate_left
  · intro w'
    go_simp
    with_reducible rfl
  rotate_left
  · simp only [Act.put, List.setIfInBounds_toArray, List.set_cons_zero, List.set_cons_succ, i64_w, i32_w]
    rfl
  refine pure_ (i := 11) (N := some 13) (v := ?_) (a' := ?_) #[true, true, true, true, true, true, true, true, true, true, true, true, false, false, false, false, false, false, false, false, false, false, false, false] rfl rfl (any_of HT_.out (by kernel_rfl)) (fun _ _ _ h => h) (Or.inl ⟨by rfl, ?_⟩) ?_ ?_
  rotate_left
  · intro w'
    go_simp
    with_reducible rfl
  rotate_left
  · simp only [Act.put, List.setIfInBounds_toArray, List.set_cons_zero, List.set_cons_succ, i64_w, i32_w]
    rfl
  refine pure_ (i := 12) (N := some 14) (v := ?_) (a' := ?_) #[true, true, true, true, true, true, true, true, true, true, true, true, true, false, false, false, false, false, false, false, false, false, false, false] rfl rfl (any_of HT_.out (by kernel_rfl)) (fun _ _ _ h => h) (Or.inl ⟨by rfl, ?_⟩) ?_ ?_
  rotate_left
  · intro w'
    go_simp
    with_reducible rfl
  rotate_left
  · simp only [Act.put, List.setIfInBounds_toArray, List.set_cons_zero, List.set_cons_succ, i64_w, i32_w]
    rfl
  refine take_ (i := 13) (N := some 15) (v := ?_) (a' := ?_) #[true, true, true, true, true, true, true, true, true, true, true, true, true, true, false, false, false, false, false, false, false, false, false, false] rfl rfl (take_ofW HT_.out HW_.out (by kernel_rfl)) (fun _ _ _ h => h) (Or.inl ⟨by rfl, ?_⟩) hHeld ?_ ?_
  rotate_left
  · rintro w' ⟨s0, s1⟩
    go_simp
    with_reducible rfl
  rotate_left
  · simp only [Act.put, List.setIfInBounds_toArray, List.set_cons_zero, List.set_cons_succ, i64_w, i32_w]
    rfl
  refine pure_ (i := 14) (N := some 16) (v := ?_) (a' := ?_) #[true, true, true, true, true, true, true, true, true, true, true, true, true, true, true, false, false, false, false, false, false, false, false, false] rfl rfl (any_of HT_.out (by kernel_rfl)) (fun _ _ _ h => h) (Or.inl ⟨by rfl, ?_⟩) ?_ ?_
  rotate_left
  · intro w'
    go_simp
    with_reducible rfl
  rotate_left
  · simp only [Act.put, List.setIfInBounds_toArray, List.set_cons_zero, List.set_cons_succ, i64_w, i32_w]
    rfl
  refine pure_ (i := 15) (N := some 17) (v := ?_) (a' := ?_) #[true, true, true, true, true, true, true, true, true, true, true, true, true, true, true, true, false, false, false, false, false, false, false, false] rfl rfl (any_of HT_.out (by kernel_rfl)) (fun _ _ _ h => h) (Or.inl ⟨by rfl, ?_⟩) ?_ ?_
  rotate_left
  · intro w'
    go_simp
    with_reducible rfl
  rotate_left
  · simp only [Act.put, List.setIfInBounds_toArray, List.set_cons_zero, List.set_cons_succ, i64_w, i32_w]
    rfl
  refine pure_ (i := 16) (N := some 18) (v := ?_) (a' := ?_) #[true, true, true, true, true, true, true, true, true, true, true, true, true, true, true, true, true, false, false, false, false, false, false, false] rfl rfl (any_of HT_.out (by kernel_rfl)) (fun _ _ _ h => h) (Or.inl ⟨by rfl, ?_⟩) ?_ ?_
  rotate_left
  · intro w'
    go_simp
    with_reducible rfl
  rotate_left
  · simp only [Act.put, List.setIfInBounds_toArray, List.set_cons_zero, List.set_cons_succ, i64_w, i32_w]
    rfl
  refine take_ (i := 17) (N := some 19) (v := ?_) (a' := ?_) #[true, true, true, true, true, true, true, true, true, true, true, true, true, true, true, true, true, true, false, false, false, false, false, false] rfl rfl (take_ofW HT_.out HW_.out (by kernel_rfl)) (fun _ _ _ h => h) (Or.inl ⟨by rfl, ?_⟩) hHeld ?_ ?_
  rotate_left
  · rintro w' ⟨s0, s1⟩
    go_simp
    with_reducible rfl
  rotate_left
  · simp only [Act.put, List.setIfInBounds_toArray, List.set_cons_zero, List.set_cons_succ, i64_w, i32_w]
    rfl
  refine pure_ (i := 18) (N := some 20) (v := ?_) (a' := ?_) #[true, true, true, true, true, true, true, true, true, true, true, true, true, true, true, true, true, true, true, false, false, false, false, false] rfl rfl (any_of HT_.out (by kernel_rfl)) (fun _ _ _ h => h) (Or.inl ⟨by rfl, ?_⟩) ?_ ?_
  rotate_left
  · intro w'
    go_simp
    with_reducible rfl
  rotate_left
  · simp only [Act.put, List.setIfInBounds_toArray, List.set_cons_zero, List.set_cons_succ, i64_w, i32_w]
    rfl
  refine one_ (i := 19) (N := some 21) #[true, true, true, true, true, true, true, true, true, true, true, true, true, true, true, true, true, true, true, true, false, false, false, false] rfl rfl (one_of HT_.out (by kernel_rfl)) (by decide) (fun K hK => ?_)
  generalize hA1 : (if cap = hand then (some ⟨gr, 0, none⟩ : Option Addr) else some ⟨gr, hand * 4, none⟩) = A1
  refine event_step (v := .slice (some ⟨w.drew.heap.size, 0, none⟩) 2 2) (w1 := (w.drew.alloc (.cells #[.slice A1 (row.length - hand) (cap - hand), .slice (some ⟨gr, 0, none⟩) hand cap] 53))) (by rfl) (by first | (go_simp; done) | (go_simp; rfl)) ?_
  have hb5 : Below w.drew.heap.size w.drew (w.drew.alloc (.cells #[.slice A1 (row.length - hand) (cap - hand), .slice (some ⟨gr, 0, none⟩) hand cap] 53)) := below_alloc (Below.refl _ _) _
  have q1 : (w.drew.alloc (.cells #[.slice A1 (row.length - hand) (cap - hand), .slice (some ⟨gr, 0, none⟩) hand cap] 53)).cell? ⟨w.drew.heap.size, 0, none⟩ = some (.slice A1 (row.drop hand).length (cap - hand)) := by rw [List.length_drop]; exact (blk_cell (blk_new w.drew _) 0).trans rfl
  have q2 : (w.drew.alloc (.cells #[.slice A1 (row.length - hand) (cap - hand), .slice (some ⟨gr, 0, none⟩) hand cap] 53)).cell? ⟨w.drew.heap.size, 1, none⟩ = some (.slice (some ⟨gr, 0, none⟩) (row.take hand).length cap) := by rw [List.length_take, Nat.min_eq_left hh]; exact (blk_cell (blk_new w.drew _) 1).trans rfl
  have hs5 := pw_cell_below hb5 hHeld.1
  have ht5 := pw_cell_below hb5 hHeld.2
  have hg5 := blk_below (blk_drew HG.out) hb5
  have hbw : Below w.heap.size w (w.drew.alloc (.cells #[.slice A1 (row.length - hand) (cap - hand), .slice (some ⟨gr, 0, none⟩) hand cap] 53)) := below_alloc (below_drew (Below.refl _ _)) _
  clear hHeld hb5
  generalize (w.drew.alloc (.cells #[.slice A1 (row.length - hand) (cap - hand), .slice (some ⟨gr, 0, none⟩) hand cap] 53)) = w5 at *
  generalize w.drew.heap.size = gl at *
  refine hK.out _ _ ⟨hs5, ht5⟩ (fun hHeld => ?_)
  clear hK K
  refine norm_ (a' := ?_) ?_ ?_
  rotate_left
  · show Act.put _ (some 21) _ = _
    simp only [Act.put, List.setIfInBounds_toArray, List.set_cons_zero, List.set_cons_succ, i64_w, i32_w]
    rfl
  refine one_ (i := 20) (N := some 22) #[true, true, true, true, true, true, true, true, true, true, true, true, true, true, true, true, true, true, true, true, true, false, false, false] rfl rfl (one_of HT_.out (by kernel_rfl)) (by decide) (fun K hK => ?_)
  refine goes_ Try.func42 (by kernel_rfl) rfl #[.slice (some ⟨gl, 0, none⟩) 2 2] (by rfl) rfl rfl (by (try simp only [List.map_toArray, List.map_cons, List.map_nil]); rfl) ?_
  have hd1 : Kd.C k59 w5 A1 (row.drop hand).length (row.drop hand) := by
    have h0 := Kd.C_drop HC.out hh hcap
    have e0 : (if cap = hand then (some (⟨gr, 0, none⟩ : Addr)) else Option.map (fun (x : Addr) => x.add (hand * k59.sz)) (some (⟨gr, 0, none⟩ : Addr))) = A1 := by rw [← hA1]; split <;> simp [add_plain, show k59.sz = 4 from rfl]
    rw [e0] at h0
    exact Kd.C_below h0 hbw
  have hd2 : Kd.C k59 w5 (some ⟨gr, 0, none⟩) (row.take hand).length (row.take hand) := Kd.C_below (Kd.C_take HC.out hh) hbw
  with_reducible refine (Concat_calls gl 2 A1 (some ⟨gr, 0, none⟩) (cap - hand) cap (row.drop hand) (row.take hand) w5 q1 q2 hd1 hd2 (by simp; omega)).mono ?_
  rintro e w6 ⟨⟨v6, rfl, ho⟩, hb⟩
  obtain ⟨A6, c6, ev6⟩ := Kd.R_slice ho
  subst ev6
  have el6 : (row.drop hand ++ row.take hand).length = row.length := by simp; omega
  rw [el6] at ho ⊢
  refine ⟨_, rfl, ?_⟩
  have hs6 := pw_cell_below hb hHeld.1
  have ht6 := pw_cell_below hb hHeld.2
  have hg6 := blk_below hg5 hb
  have hb6 := below_step hbw hb
  have ho6 := Kd.R_lower ho hbw.size
  clear hHeld
  refine hK.out _ _ ⟨hs6, ht6⟩ (fun hHeld => ?_)
  clear hK K
  refine norm_ (a' := ?_) ?_ ?_
  rotate_left
  · show Act.put _ (some 22) _ = _
    simp only [Act.put, List.setIfInBounds_toArray, List.set_cons_zero, List.set_cons_succ, i64_w, i32_w]
    rfl
  refine pure_ (i := 21) (N := some 23) (v := ?_) (a' := ?_) #[true, true, true, true, true, true, true, true, true, true, true, true, true, true, true, true, true, true, true, true, true, true, false, false] rfl rfl (any_of HT_.out (by kernel_rfl)) (fun _ _ _ h => h) (Or.inl ⟨by rfl, ?_⟩) ?_ ?_
  rotate_left
  · intro w'
    go_simp
    with_reducible rfl
  rotate_left
  · simp only [Act.put, List.setIfInBounds_toArray, List.set_cons_zero, List.set_cons_succ, i64_w, i32_w]
    rfl
  refine pure_ (i := 22) (N := some 24) (v := ?_) (a' := ?_) #[true, true, true, true, true, true, true, true, true, true, true, true, true, true, true, true, true, true, true, true, true, true, true, false] rfl rfl (any_of HT_.out (by kernel_rfl)) (fun _ _ _ h => h) (Or.inl ⟨by rfl, ?_⟩) ?_ ?_
  rotate_left
  · intro w'
    go_simp
    with_reducible rfl
  rotate_left
  · simp only [Act.put, List.setIfInBounds_toArray, List.set_cons_zero, List.set_cons_succ, i64_w, i32_w]
    rfl
  refine last_ (i := 23) (N := none) #[true, true, true, true, true, true, true, true, true, true, true, true, true, true, true, true, true, true, true, true, true, true, true, true] rfl rfl (one_of HT_.out (by kernel_rfl)) (by decide) (fun K hK => ?_)
  have hs8 := hHeld.1
  have hf8 := blk_frozen hg6 1
  refine skip_ (w1 := ?_) (by rfl) rfl ?_ ?_
  rotate_left
  · go_simp
    rfl
  refine hK.out _ _ ?_
  clear hK K
  refine done_ (done_of HT_.out (by kernel_rfl)) ?_
  have hg9 : (w6.setCell ⟨g, 1, none⟩ (.slice A6 row.length c6)).heap[g]? = some (.cells #[.int .i64 most, .slice A6 row.length c6, .int .i64 (hand : Int)] 55 (0, 0)) := blk_put hg6 1 _ rfl
  have c9 : (w6.setCell ⟨g, 1, none⟩ (.slice A6 row.length c6)).cell? ⟨g, 2, none⟩ = some (.int .i64 (hand : Int)) := (blk_cell hg9 2).trans rfl
  have f9 := blk_frozen hg9 2
  have OO := Aside0.mk ho6
  have BB := Aside0.mk hb6
  clear hg9 ho6 hb6
  go_wp2
  go_end0
  exact ⟨rfl, w6, _, rfl, BB.out, OO.out⟩
set_option maxHeartbeats 2000000 in
set_option maxRecDepth 100000 in
theorem straight_none (g : Nat) (most : Int) (w : World) (hg : w.heap[g]? = some (.cells #[.int .i64 most, .slice none 0 0, .int .i64 0] 55 (0, 0))) :
    Calls Try.prog 26 #[.pointer (some ⟨g, 0, none⟩)] w fun e w' => e = .returned (.tuple #[]) ∧ ∃ w6 v, w' = (w6.setCell ⟨g, 1, none⟩ v).setCell ⟨g, 2, none⟩ (.int .i64 0) ∧ Below w.heap.size w w6 ∧ Kd.R k59 59 w6 w.heap.size (fun _ => True) v [] := by
  have HG := Aside0.mk hg
  clear hg
  go_enter Try.func26, Try.ntmps26
  try go_wp2
  refine start_ (n := 24) (S := fun w' => w'.cell? ⟨g, 1, none⟩ = some (.slice none 0 0) ∧ w'.cell? ⟨g, 2, none⟩ = some (.int .i64 0)) (ds := [23]) #[false, false, false, false, false, false, false, false, false, false, false, false, false, false, false, false, false, false, false, false, false, false, false, false] (by kernel_rfl) rfl rfl ⟨(blk_cell (blk_drew HG.out) 1).trans rfl, (blk_cell (blk_drew HG.out) 2).trans rfl⟩ (fun hHeld => ?_); refine with_tabW straight_tab0 straight_bits0 (fun HT_ HW_ => ?_)
  refine pure_ (i := 0) (N := some 2) (v := ?_) (a' := ?_) #[true, false, false, false, false, false, false, false, false, false, false, false, false, false, false, false, false, false, false, false, false, false, false, false] rfl rfl (any_of HT_.out (by kernel_rfl)) (fun _ _ _ h => h) (Or.inl ⟨by rfl, ?_⟩) ?_ ?_
  rotate_left
  · intro w'
    go_simp
    with_reducible rfl
  rotate_left
  · simp only [Act.put, List.setIfInBounds_toArray, List.set_cons_zero, List.set_cons_succ, i64_w, i32_w]
    rfl
  refine pure_ (i := 1) (N := some 3) (v := ?_) (a' := ?_) #[true, true, false, false, false, false, false, false, false, false, false, false, false, false, false, false, false, false, false, false, false, false, false, false] rfl rfl (any_of HT_.out (by kernel_rfl)) (fun _ _ _ h => h) (Or.inl ⟨by rfl, ?_⟩) ?_ ?_
  rotate_left
  · intro w'
    go_simp
    with_reducible rfl
  rotate_left
  · simp only [Act.put, List.setIfInBounds_toArray, List.set_cons_zero, List.set_cons_succ, i64_w, i32_w]
    rfl
  refine pure_ (i := 2) (N := some 4) (v := ?_) (a' := ?_) #[true, true, true, false, false, false, false, false, false, false, false, false, false, false, false, false, false, false, false, false, false, false, false, false] rfl rfl (any_of HT_.out (by kernel_rfl)) (fun _ _ _ h => h) (Or.inl ⟨by rfl, ?_⟩) ?_ ?_
  rotate_left
  · intro w'
    go_simp
    with_reducible rfl
  rotate_left
  · simp only [Act.put, List.setIfInBounds_toArray, List.set_cons_zero, List.set_cons_succ, i64_w, i32_w]
    rfl
  refine pure_ (i := 3) (N := some 5) (v := ?_) (a' := ?_) #[true, true, true, true, false, false, false, false, false, false, false, false, false, false, false, false, false, false, false, false, false, false, false, false] rfl rfl (any_of HT_.out (by kernel_rfl)) (fun _ _ _ h => h) (Or.inl ⟨by rfl, ?_⟩) ?_ ?_
  rotate_left
  · intro w'
    go_simp
    with_reducible rfl
  rotate_left
  · simp only [Act.put, List.setIfInBounds_toArray, List.set_cons_zero, List.set_cons_succ, i64_w, i32_w]
    rfl
  refine take_ (i := 4) (N := some 6) (v := ?_) (a' := ?_) #[true, true, true, true, true, false, false, false, false, false, false, false, false, false, false, false, false, false, false, false, false, false, false, false] rfl rfl (take_ofW HT_.out HW_.out (by kernel_rfl)) (fun _ _ _ h => h) (Or.inl ⟨by rfl, ?_⟩) hHeld ?_ ?_
  rotate_left
  · rintro w' ⟨s0, s1⟩
    go_simp
    with_reducible rfl
  rotate_left
  · simp only [Act.put, List.setIfInBounds_toArray, List.set_cons_zero, List.set_cons_succ, i64_w, i32_w]
    rfl
  refine pure_ (i := 5) (N := some 7) (v := ?_) (a' := ?_) #[true, true, true, true, true, true, false, false, false, false, false, false, false, false, false, false, false, false, false, false, false, false, false, false] rfl rfl (any_of HT_.out (by kernel_rfl)) (fun _ _ _ h => h) (Or.inl ⟨by rfl, ?_⟩) ?_ ?_
  rotate_left
  · intro w'
    go_simp
    with_reducible rfl
  rotate_left
  · simp only [Act.put, List.setIfInBounds_toArray, List.set_cons_zero, List.set_cons_succ, i64_w, i32_w]
    rfl
  refine pure_ (i := 6) (N := some 8) (v := ?_) (a' := ?_) #[true, true, true, true, true, true, true, false, false, false, false, false, false, false, false, false, false, false, false, false, false, false, false, false] rfl rfl (any_of HT_.out (by kernel_rfl)) (fun _ _ _ h => h) (Or.inl ⟨by rfl, ?_⟩) ?_ ?_
  rotate_left
  · intro w'
    go_simp
    with_reducible rfl
  rotate_left
  · simp only [Act.put, List.setIfInBounds_toArray, List.set_cons_zero, List.set_cons_succ, i64_w, i32_w]
    rfl
  refine pure_ (i := 7) (N := some 9) (v := ?_) (a' := ?_) #[true, true, true, true, true, true, true, true, false, false, false, false, false, false, false, false, false, false, false, false, false, false, false, false] rfl rfl (any_of HT_.out (by kernel_rfl)) (fun _ _ _ h => h) (Or.inl ⟨by rfl, ?_⟩) ?_ ?_
  rotate_left
  · intro w'
    go_simp
    with_reducible rfl
  rotate_left
  · simp only [Act.put, List.setIfInBounds_toArray, List.set_cons_zero, List.set_cons_succ, i64_w, i32_w]
    rfl
  refine take_ (i := 8) (N := some 10) (v := ?_) (a' := ?_) #[true, true, true, true, true, true, true, true, true, false, false, false, false, false, false, false, false, false, false, false, false, false, false, false] rfl rfl (take_ofW HT_.out HW_.out (by kernel_rfl)) (fun _ _ _ h => h) (Or.inl ⟨by rfl, ?_⟩) hHeld ?_ ?_
  rotate_left
  · rintro w' ⟨s0, s1⟩
    go_simp
    with_reducible rfl
  rotate_left
  · simp only [Act.put, List.setIfInBounds_toArray, List.set_cons_zero, List.set_cons_succ, i64_w, i32_w]
    rfl
  refine pure_ (i := 9) (N := some 11) (v := ?_) (a' := ?_) #[true, true, true, true, true, true, true, true, true, true, false, false, false, false, false, false, false, false, false, false, false, false, false, false] rfl rfl (any_of HT_.out (by kernel_rfl)) (fun _ _ _ h => h) (Or.inl ⟨by rfl, ?_⟩) ?_ ?_
  rotate_left
  · intro w'
    go_simp
    with_reducible rfl
  rotate_left
  · simp only [Act.put, List.setIfInBounds_toArray, List.set_cons_zero, List.set_cons_succ, i64_w, i32_w]
    rfl
  refine pure_ (i := 10) (N := some 12) (v := ?_) (a' := ?_) #[true, true, true, true, true, true, true, true, true, true, true, false, false, false, false, false, false, false, false, false, false, false, false, false] rfl rfl (any_of HT_.out (by kernel_rfl)) (fun _ _ _ h => h) (Or.inl ⟨by rfl, ?_⟩) ?_ ?_
  rotate_left
  · intro w'
    go_simp
    with_reducible rfl
  rotate_left
  · simp only [Act.put, List.setIfInBounds_toArray, List.set_cons_zero, List.set_cons_succ, i64_w, i32_w]
    rfl
  refine pure_ (i := 11) (N := some 13) (v := ?_) (a' := ?_) #[true, true, true, true, true, true, true, true, true, true, true, true, false, false, false, false, false, false, false, false, false, false, false, false] rfl rfl (any_of HT_.out (by kernel_rfl)) (fun _ _ _ h => h) (Or.inl ⟨by rfl, ?_⟩) ?_ ?_
  rotate_left
  · intro w'
    go_simp
    with_reducible rfl
  rotate_left
  · simp only [Act.put, List.setIfInBounds_toArray, List.set_cons_zero, List.set_cons_succ, i64_w, i32_w]
    rfl
  refine pure_ (i := 12) (N := some 14) (v := ?_) (a' := ?_) #[true, true, true, true, true, true, true, true, true, true, true, true, true, false, false, false, false, false, false, false, false, false, false, false] rfl rfl (any_of HT_.out (by kernel_rfl)) (fun _ _ _ h => h) (Or.inl ⟨by rfl, ?_⟩) ?_ ?_
  rotate_left
  · intro w'
    go_simp
    with_reducible rfl
  rotate_left
  · simp only [Act.put, List.setIfInBounds_toArray, List.set_cons_zero, List.set_cons_succ, i64_w, i32_w]
    rfl
  refine take_ (i := 13) (N := some 15) (v := ?_) (a' := ?_) #[true, true, true, true, true, true, true, true, true, true, true, true, true, true, false, false, false, false, false, false, false, false, false, false] rfl rfl (take_ofW HT_.out HW_.out (by kernel_rfl)) (fun _ _ _ h => h) (Or.inl ⟨by rfl, ?_⟩) hHeld ?_ ?_
  rotate_left
  · rintro w' ⟨s0, s1⟩
    go_simp
    with_reducible rfl
  rotate_left
  · simp only [Act.put, List.setIfInBounds_toArray, List.set_cons_zero, List.set_cons_succ, i64_w, i32_w]
    rfl
  refine pure_ (i := 14) (N := some 16) (v := ?_) (a' := ?_) #[true, true, true, true, true, true, true, true, true, true, true, true, true, true, true, false, false, false, false, false, false, false, false, false] rfl rfl (any_of HT_.out (by kernel_rfl)) (fun _ _ _ h => h) (Or.inl ⟨by rfl, ?_⟩) ?_ ?_
  rotate_left
  · intro w'
    go_simp
    with_reducible rfl
  rotate_left
  · simp only [Act.put, List.setIfInBounds_toArray, List.set_cons_zero, List.set_cons_succ, i64_w, i32_w]
    rfl
  refine pure_ (i := 15) (N := some 17) (v := ?_) (a' := ?_) #[true, true, true, true, true, true, true, true, true, true, true, true, true, true, true, true, false, false, false, false, false, false, false, false] rfl rfl (any_of HT_.out (by kernel_rfl)) (fun _ _ _ h => h) (Or.inl ⟨by rfl, ?_⟩) ?_ ?_
  rotate_left
  · intro w'
    go_simp
    with_reducible rfl
  rotate_left
  · simp only [Act.put, List.setIfInBounds_toArray, List.set_cons_zero, List.set_cons_succ, i64_w, i32_w]
    rfl
  refine pure_ (i := 16) (N := some 18) (v := ?_) (a' := ?_) #[true, true, true, true, true, true, true, true, true, true, true, true, true, true, true, true, true, false, false, false, false, false, false, false] rfl rfl (any_of HT_.out (by kernel_rfl)) (fun _ _ _ h => h) (Or.inl ⟨by rfl, ?_⟩) ?_ ?_
  rotate_left
  · intro w'
    go_simp
    with_reducible rfl
  rotate_left
  · simp only [Act.put, List.setIfInBounds_toArray, List.set_cons_zero, List.set_cons_succ, i64_w, i32_w]
    rfl
  refine take_ (i := 17) (N := some 19) (v := ?_) (a' := ?_) #[true, true, true, true, true, true, true, true, true, true, true, true, true, true, true, true, true, true, false, false, false, false, false, false] rfl rfl (take_ofW HT_.out HW_.out (by kernel_rfl)) (fun _ _ _ h => h) (Or.inl ⟨by rfl, ?_⟩) hHeld ?_ ?_
  rotate_left
  · rintro w' ⟨s0, s1⟩
    go_simp
    with_reducible rfl
  rotate_left
  · simp only [Act.put, List.setIfInBounds_toArray, List.set_cons_zero, List.set_cons_succ, i64_w, i32_w]
    rfl
  refine pure_ (i := 18) (N := some 20) (v := ?_) (a' := ?_) #[true, true, true, true, true, true, true, true, true, true, true, true, true, true, true, true, true, true, true, false, false, false, false, false] rfl rfl (any_of HT_.out (by kernel_rfl)) (fun _ _ _ h => h) (Or.inl ⟨by rfl, ?_⟩) ?_ ?_
  rotate_left
  · intro w'
    go_simp
    with_reducible rfl
  rotate_left
  · simp only [Act.put, List.setIfInBounds_toArray, List.set_cons_zero, List.set_cons_succ, i64_w, i32_w]
    rfl
  refine one_ (i := 19) (N := some 21) #[true, true, true, true, true, true, true, true, true, true, true, true, true, true, true, true, true, true, true, true, false, false, false, false] rfl rfl (one_of HT_.out (by kernel_rfl)) (by decide) (fun K hK => ?_)
  refine event_step (v := .slice (some ⟨w.drew.heap.size, 0, none⟩) 2 2) (w1 := (w.drew.alloc (.cells #[.slice none 0 0, .slice none 0 0] 53))) (by rfl) (by first | (go_simp; done) | (go_simp; rfl)) ?_
  have hb5 : Below w.drew.heap.size w.drew (w.drew.alloc (.cells #[.slice none 0 0, .slice none 0 0] 53)) := below_alloc (Below.refl _ _) _
  have q1 : (w.drew.alloc (.cells #[.slice none 0 0, .slice none 0 0] 53)).cell? ⟨w.drew.heap.size, 0, none⟩ = some (.slice none ([] : List S59).length 0) := (blk_cell (blk_new w.drew _) 0).trans rfl
  have q2 : (w.drew.alloc (.cells #[.slice none 0 0, .slice none 0 0] 53)).cell? ⟨w.drew.heap.size, 1, none⟩ = some (.slice none ([] : List S59).length 0) := (blk_cell (blk_new w.drew _) 1).trans rfl
  have hs5 := pw_cell_below hb5 hHeld.1
  have ht5 := pw_cell_below hb5 hHeld.2
  have hg5 := blk_below (blk_drew HG.out) hb5
  have hbw : Below w.heap.size w (w.drew.alloc (.cells #[.slice none 0 0, .slice none 0 0] 53)) := below_alloc (below_drew (Below.refl _ _)) _
  clear hHeld hb5
  generalize (w.drew.alloc (.cells #[.slice none 0 0, .slice none 0 0] 53)) = w5 at *
  generalize w.drew.heap.size = gl at *
  refine hK.out _ _ ⟨hs5, ht5⟩ (fun hHeld => ?_)
  clear hK K
  refine norm_ (a' := ?_) ?_ ?_
  rotate_left
  · show Act.put _ (some 21) _ = _
    simp only [Act.put, List.setIfInBounds_toArray, List.set_cons_zero, List.set_cons_succ, i64_w, i32_w]
    rfl
  refine one_ (i := 20) (N := some 22) #[true, true, true, true, true, true, true, true, true, true, true, true, true, true, true, true, true, true, true, true, true, false, false, false] rfl rfl (one_of HT_.out (by kernel_rfl)) (by decide) (fun K hK => ?_)
  refine goes_ Try.func42 (by kernel_rfl) rfl #[.slice (some ⟨gl, 0, none⟩) 2 2] (by rfl) rfl rfl (by (try simp only [List.map_toArray, List.map_cons, List.map_nil]); rfl) ?_
  have hd1 : Kd.C k59 w5 none ([] : List S59).length [] := ⟨rfl, by decide, fun h => absurd h (by decide)⟩
  with_reducible refine (Concat_calls gl 2 none none 0 0 [] [] w5 q1 q2 hd1 hd1 (by decide)).mono ?_
  rintro e w6 ⟨⟨v6, rfl, ho⟩, hb⟩
  obtain ⟨A6, c6, ev6⟩ := Kd.R_slice ho
  subst ev6
  refine ⟨_, rfl, ?_⟩
  have hs6 := pw_cell_below hb hHeld.1
  have ht6 := pw_cell_below hb hHeld.2
  have hg6 := blk_below hg5 hb
  have hb6 := below_step hbw hb
  have ho6 := Kd.R_lower ho hbw.size
  clear hHeld
  refine hK.out _ _ ⟨hs6, ht6⟩ (fun hHeld => ?_)
  clear hK K
  refine norm_ (a' := ?_) ?_ ?_
  rotate_left
  · show Act.put _ (some 22) _ = _
    simp only [Act.put, List.setIfInBounds_toArray, List.set_cons_zero, List.set_cons_succ, i64_w, i32_w]
    rfl
  refine pure_ (i := 21) (N := some 23) (v := ?_) (a' := ?_) #[true, true, true, true, true, true, true, true, true, true, true, true, true, true, true, true, true, true, true, true, true, true, false, false] rfl rfl (any_of HT_.out (by kernel_rfl)) (fun _ _ _ h => h) (Or.inl ⟨by rfl, ?_⟩) ?_ ?_
  rotate_left
  · intro w'
    go_simp
    with_reducible rfl
  rotate_left
  · simp only [Act.put, List.setIfInBounds_toArray, List.set_cons_zero, List.set_cons_succ, i64_w, i32_w]
    rfl
  refine pure_ (i := 22) (N := some 24) (v := ?_) (a' := ?_) #[true, true, true, true, true, true, true, true, true, true, true, true, true, true, true, true, true, true, true, true, true, true, true, false] rfl rfl (any_of HT_.out (by kernel_rfl)) (fun _ _ _ h => h) (Or.inl ⟨by rfl, ?_⟩) ?_ ?_
  rotate_left
  · intro w'
    go_simp
    with_reducible rfl
  rotate_left
  · simp only [Act.put, List.setIfInBounds_toArray, List.set_cons_zero, List.set_cons_succ, i64_w, i32_w]
    rfl
  refine last_ (i := 23) (N := none) #[true, true, true, true, true, true, true, true, true, true, true, true, true, true, true, true, true, true, true, true, true, true, true, true] rfl rfl (one_of HT_.out (by kernel_rfl)) (by decide) (fun K hK => ?_)
  have hs8 := hHeld.1
  have hf8 := blk_frozen hg6 1
  refine skip_ (w1 := ?_) (by rfl) rfl ?_ ?_
  rotate_left
  · go_simp
    rfl
  refine hK.out _ _ ?_
  clear hK K
  refine done_ (done_of HT_.out (by kernel_rfl)) ?_
  have hg9 : (w6.setCell ⟨g, 1, none⟩ (.slice A6 0 c6)).heap[g]? = some (.cells #[.int .i64 most, .slice A6 0 c6, .int .i64 0] 55 (0, 0)) := blk_put hg6 1 _ rfl
  have c9 : (w6.setCell ⟨g, 1, none⟩ (.slice A6 0 c6)).cell? ⟨g, 2, none⟩ = some (.int .i64 0) := (blk_cell hg9 2).trans rfl
  have f9 := blk_frozen hg9 2
  have OO := Aside0.mk ho6
  have BB := Aside0.mk hb6
  clear hg9 ho6 hb6
  go_wp2
  go_end0
  exact ⟨rfl, w6, _, rfl, BB.out, OO.out⟩
/-- The row begins at its front. -/
theorem straight_calls (g : Nat) (P : Nat → Prop) (most : Int) (hand : Nat) (row : List S59) (w0 w : World) (hB : Below w0.heap.size w0 w) (h : CS w0.heap.size P w g most row hand) (hh : hand ≤ row.length) (hn : row.length < 1000) :
    Calls Try.prog 26 #[.pointer (some ⟨g, 0, none⟩)] w fun e w' => e = .returned (.tuple #[]) ∧ CS w0.heap.size (fun k => P k ∨ w.heap.size ≤ k) w' g most (rot row hand) 0 ∧ Below w0.heap.size w0 w' ∧ Kept w w' P := by
  obtain ⟨h1, h2, v, h3, h4⟩ := h
  have fin : ∀ w6 v6, Below w.heap.size w w6 → Kd.R k59 59 w6 w.heap.size (fun _ => True) v6 (rot row hand) → ∀ w', w' = (w6.setCell ⟨g, 1, none⟩ v6).setCell ⟨g, 2, none⟩ (.int .i64 0) → CS w0.heap.size (fun k => P k ∨ w.heap.size ≤ k) w' g most (rot row hand) 0 ∧ Below w0.heap.size w0 w' ∧ Kept w w' P := by
    rintro w6 v6 hb ho w' rfl
    have hg6 := blk_below h3 hb
    have hg7 : (w6.setCell ⟨g, 1, none⟩ v6).heap[g]? = some (.cells #[.int .i64 most, v6, .int .i64 (hand : Int)] 55 (0, 0)) := blk_put hg6 1 _ rfl
    have hg8 : ((w6.setCell ⟨g, 1, none⟩ v6).setCell ⟨g, 2, none⟩ (.int .i64 0)).heap[g]? = some (.cells #[.int .i64 most, v6, .int .i64 0] 55 (0, 0)) := blk_put hg7 2 _ rfl
    have hlt := blk_lt h3
    have o1 := Kd.R_set ho hg6 (by simp [show k59.E = [] from rfl]) 1 v6
    have o2 := Kd.R_set o1 hg7 (by simp [show k59.E = [] from rfl]) 2 (.int .i64 0)
    refine ⟨⟨h1, .inl h2, v6, hg8, Kd.R_lower (Kd.R_mono (Kd.R_bound o2) (fun k hk => .inr hk.2.1)) hB.size⟩, ?_, ?_⟩
    · exact ((below_then hB hB.size hb).setCell (p := ⟨g, 1, none⟩) h1 _).setCell (p := ⟨g, 2, none⟩) h1 _
    · refine ⟨?_, fun k hk hS => ?_⟩
      · rw [World.size_setCell, World.size_setCell]; exact hb.size
      · have hkg : k ≠ g := fun e => hS (e ▸ h2)
        rw [Below.heap_setCell _ _ _ k hkg, Below.heap_setCell _ _ _ k hkg]
        exact hb.block k hk
  rcases row_shape h4 with ⟨rfl, rfl⟩ | ⟨gr, cap, rfl, hcap, hC⟩
  · obtain rfl : hand = 0 := by simpa using hh
    refine (straight_none g most w h3).mono ?_
    rintro e w' ⟨he, w6, v6, hw', hb, ho⟩
    exact ⟨he, fin w6 v6 hb ho w' hw'⟩
  · refine (straight_some g gr cap most hand row w h3 hC hcap hh hn).mono ?_
    rintro e w' ⟨he, w6, v6, hw', hb, ho⟩
    exact ⟨he, fin w6 v6 hb ho w' hw'⟩
end Go.Proofs.Ytlmnagbfmkaglaa.CC
