import Derived.Test.YtlmnagbfmkaglaaFA
import Derived.Test.YtlmnagbfmkaglaaPIx0
/-! A deed on both caches. -/
namespace Go.Proofs.Ytlmnagbfmkaglaa.CC
open Go.RowKit Go.Proofs.Ytlmnagbfmkaglaa.PG Go.Proofs.Ytlmnagbfmkaglaa.PI Go.Proofs.YtlmnagbfmkaglaaW.PrintWords Go.Proofs.YtlmnagbfmkaglaaW.PrintLast Go.Proofs.YtlmnagbfmkaglaaW.PrintMore
attribute [local go_sem] Oper.semAt_some
/-- Both caches, one list, apart. -/
structure Two (B : Nat) (Pc Pr : Nat → Prop) (w : World) (gc gr : Nat) (most : Int) (L : List S59) : Prop where
  ac : AC B Pc w gc most L
  ar : AR B Pr w gr most L
  ap : ∀ k, Pc k → ¬ Pr k
theorem Two.below {B : Nat} {Pc Pr : Nat → Prop} {w w' : World} {gc gr : Nat} {most : Int} {L : List S59} (h : Two B Pc Pr w gc gr most L) (hb : Below w.heap.size w w') : Two B Pc Pr w' gc gr most L := ⟨h.ac.below hb, h.ar.below hb, h.ap⟩
theorem Two.bound {B : Nat} {Pc Pr : Nat → Prop} {w : World} {gc gr : Nat} {most : Int} {L : List S59} (h : Two B Pc Pr w gc gr most L) : Two B (fun k => Pc k ∧ k < w.heap.size) (fun k => Pr k ∧ k < w.heap.size) w gc gr most L := ⟨h.ac.bound, h.ar.bound, fun k h1 h2 => h.ap k h1.1 h2.1⟩
/-- What a deed leaves. -/
def Done (Pc Pr : Nat → Prop) (w0 w w' : World) (gc gr : Nat) (most : Int) (L : List S59) : Prop :=
  (∃ Pc' Pr', Two w0.heap.size Pc' Pr' w' gc gr most L ∧ (∀ k, Pc' k → Pc k ∨ w.heap.size ≤ k) ∧ (∀ k, Pr' k → Pr k ∨ w.heap.size ≤ k)) ∧ Below w0.heap.size w0 w' ∧ Kept w w' (fun k => Pc k ∨ Pr k)
/-- A call on the cache, and one on the other, one behind the other, from w5 on (w5 is w and new blocks). -/
theorem both {Pc Pr : Nat → Prop} {w0 w w5 w6 w7 : World} {gc gr : Nat} {most : Int} {L L' : List S59} (h : Two w0.heap.size Pc Pr w gc gr most L) (hb : Below w.heap.size w w5)
    (hc : AC w0.heap.size (fun k => (Pc k ∧ k < w.heap.size) ∨ w5.heap.size ≤ k) w6 gc most L') (hk6 : Kept w5 w6 (fun k => Pc k ∧ k < w.heap.size))
    (hr : AR w0.heap.size (fun k => (Pr k ∧ k < w.heap.size) ∨ w6.heap.size ≤ k) w7 gr most L') (hb7 : Below w0.heap.size w0 w7) (hk7 : Kept w6 w7 (fun k => Pr k ∧ k < w.heap.size)) : Done Pc Pr w0 w w7 gc gr most L' := by
  refine ⟨⟨_, _, ⟨hc.kept hk7 (fun k h1 h2 => ?_), hr, fun k h1 h2 => ?_⟩, fun k h1 => ?_, fun k h1 => ?_⟩, hb7, ?_, fun k hk hS => ?_⟩
  · rcases h1 with h1 | h1
    · exact h.ap k h1.1 h2.1
    · have := hb.size; have := h2.2; omega
  · rcases h1.1 with h3 | h3
    · rcases h2 with h2 | h2
      · exact h.ap k h3.1 h2.1
      · have := h1.2; omega
    · rcases h2 with h2 | h2
      · have := hb.size; have := h2.2; omega
      · have := h1.2; omega
  · rcases h1.1 with h1 | h1
    · exact .inl h1.1
    · exact .inr (Nat.le_trans hb.size h1)
  · rcases h1 with h1 | h1
    · exact .inl h1.1
    · exact .inr (Nat.le_trans (Nat.le_trans hb.size hk6.1) h1)
  · exact Nat.le_trans (Nat.le_trans hb.size hk6.1) hk7.1
  · have k5 : k < w5.heap.size := Nat.lt_of_lt_of_le hk hb.size
    exact (hk7.2 k (Nat.lt_of_lt_of_le k5 hk6.1) (fun e => hS (.inr e.1))).trans ((hk6.2 k k5 (fun e => hS (.inl e.1))).trans (hb.block k hk))
/-- The other cache behind a call on the one. -/
theorem other {Pc Pr : Nat → Prop} {w0 w w5 w6 : World} {gc gr : Nat} {most : Int} {L : List S59} (h : Two w0.heap.size Pc Pr w gc gr most L) (hb : Below w.heap.size w w5) (hk6 : Kept w5 w6 (fun k => Pc k ∧ k < w.heap.size)) : AR w0.heap.size (fun k => Pr k ∧ k < w.heap.size) w6 gr most L :=
  (((h.ar.bound).below hb).kept hk6 (fun k h1 h2 => h.ap k h2.1 h1.1)).mono (fun k hk => hk.1)
theorem box_kept {Pc : Nat → Prop} {w w5 w6 : World} {gx n : Nat} {cs : Array Value} (hx : w5.heap[gx]? = some (.cells cs 50 (0, 0))) (hg : w.heap.size ≤ gx) (hk6 : Kept w5 w6 (fun k => Pc k ∧ k < w.heap.size)) : w6.heap[gx]? = some (.cells cs 50 (0, 0)) := (hk6.2 gx (blk_lt hx) (fun e => by have := e.2; omega)).trans hx
set_option maxHeartbeats 2000000 in
set_option maxRecDepth 100000 in
theorem do_use {k : Nat} (Pc Pr : Nat → Prop) (gc gr : Nat) (most : Int) (L : List S59) (b : Int) (on : Bool) (w0 w : World) (hB : Below w0.heap.size w0 w) (hT : Two w0.heap.size Pc Pr w gc gr most L) (hi : Inv k most L) : Calls Try.prog 24 #[.pointer (some ⟨gc, 0, none⟩), .pointer (some ⟨gr, 0, none⟩), .agg #[.int .i64 0, .int .i64 b, .bool on]] w fun e w' => e = .returned (.bool true) ∧ Done Pc Pr w0 w w' gc gr most ((useL most L b).2) := by
  have HB := Aside0.mk hB
  have HT := Aside0.mk hT
  clear hB hT
  have h6 : ∀ w5, Below w.heap.size w w5 → Calls Try.prog 11 #[.pointer (some ⟨gc, 0, none⟩), .int .i64 b] w5 fun e w' => e = .returned (.tuple #[.int .i64 (useL most L b).1.1, .int .i64 (useL most L b).1.2]) ∧ Aside0 (AC w0.heap.size (fun k => (Pc k ∧ k < w.heap.size) ∨ w5.heap.size ≤ k) w' gc most (useL most L b).2 ∧ Below w0.heap.size w0 w' ∧ Kept w5 w' (fun k => Pc k ∧ k < w.heap.size)) := fun w5 hb =>
    (Use_A gc _ most L b w0 w5 (below_then HB.out HB.out.size hb) ((HT.out.ac.bound).below hb) hi).mono fun e w' h => ⟨h.1, ⟨h.2⟩⟩
  have h7 : ∀ w5 w6, Below w.heap.size w w5 → Aside0 (AC w0.heap.size (fun k => (Pc k ∧ k < w.heap.size) ∨ w5.heap.size ≤ k) w6 gc most (useL most L b).2 ∧ Below w0.heap.size w0 w6 ∧ Kept w5 w6 (fun k => Pc k ∧ k < w.heap.size)) → Calls Try.prog 36 #[.pointer (some ⟨gr, 0, none⟩), .int .i64 b] w6 fun e w' => e = .returned (.tuple #[.int .i64 (useL most L b).1.1, .int .i64 (useL most L b).1.2]) ∧ Aside0 (Done Pc Pr w0 w w' gc gr most (useL most L b).2) := fun w5 w6 hb ha =>
    (Use_R gr _ most L b w0 w6 ha.out.2.1 (other HT.out hb ha.out.2.2) hi).mono fun e w' h => ⟨h.1, ⟨both HT.out hb ha.out.1 ha.out.2.2 h.2.1 h.2.2.1 h.2.2.2⟩⟩
  have hx : ∀ w5 w6 gx, w.heap.size = gx → w5.heap[gx]? = some (.cells #[.int .i64 (0 : Int), .int .i64 b, .bool on] 50 (0, 0)) → Kept w5 w6 (fun k => Pc k ∧ k < w.heap.size) → w6.cell? ⟨gx, 1, none⟩ = some (.int .i64 b) := fun w5 w6 gx hg hx hk => (blk_cell (box_kept (n := 0) hx (Nat.le_of_eq hg) hk) 1).trans rfl
  generalize (useL most L b).1.1 = r1 at *
  generalize (useL most L b).1.2 = r2 at *
  go_enter Try.func24, Try.ntmps24
  go_wp2_with (first | ((with_reducible refine gate_dst (N := 5) rfl ?_); refine box_event ?hg (N := 5) ?hd (cs := #[.int .i64 0, .int .i64 b, .bool on]) (t := 50) ?hr ?_; (case hd => rfl); (case hg => rfl); (case hr => first | (go_simp; done) | (go_simp; rfl)); intro gx hgx w5 hbox hb; have x0 : w5.cell? ⟨gx, 0, none⟩ = some (.int .i64 0) := (blk_cell hbox 0).trans rfl; have x1 : w5.cell? ⟨gx, 1, none⟩ = some (.int .i64 b) := (blk_cell hbox 1).trans rfl; have x2 : w5.cell? ⟨gx, 2, none⟩ = some (.bool on) := (blk_cell hbox 2).trans rfl; have HX5 := Aside0.mk hbox; have HI5 := Aside0.mk hgx; have HB5 := Aside0.mk hb; clear hb hbox hgx) | (go_at_call 11; with_reducible refine (h6 _ HB5.out).mono ?_; rintro e w6 ⟨rfl, ha⟩; have x6 := hx _ _ _ HI5.out.symm HX5.out ha.out.2.2) | (go_at_call 36; with_reducible refine (h7 _ _ HB5.out ha).mono ?_; rintro e w7 ⟨rfl, hd⟩))
  go_ret
  exact ⟨rfl, hd.out⟩
def do7_T7 : Bool × List (List Nat × List Nat) := (true, [([], []), ([], []), ([1], [1]), ([], []), ([3], [3]), ([0, 2, 4], [0, 2, 4]), ([], []), ([], []), ([7], [7]), ([], []), ([9], [9]), ([6, 8, 10, 5], [6, 8, 10]), ([5, 11], [5, 11]), ([12, 11, 0, 1, 2, 3, 4, 5, 6, 7, 8, 9, 10, 11, 12], [12])])
def do7_B7 : List Nat := [0, 0, 2, 0, 8, 31, 0, 0, 128, 0, 512, 2047, 4095, 8191]
theorem do7_tab7 : rtab .any (opsOf Try.f24 7) = do7_T7 := by kernel_rfl
theorem do7_bits7 : waitsOk do7_T7.2 do7_B7 = true := by kernel_rfl
set_option maxHeartbeats 2000000 in
set_option maxRecDepth 100000 in
theorem do_pin {k : Nat} (Pc Pr : Nat → Prop) (gc gr : Nat) (most : Int) (L : List S59) (b : Int) (on : Bool) (w0 w : World) (hB : Below w0.heap.size w0 w) (hT : Two w0.heap.size Pc Pr w gc gr most L) (hi : Inv k most L) : Calls Try.prog 24 #[.pointer (some ⟨gc, 0, none⟩), .pointer (some ⟨gr, 0, none⟩), .agg #[.int .i64 1, .int .i64 b, .bool on]] w fun e w' => e = .returned (.bool true) ∧ Done Pc Pr w0 w w' gc gr most ((pinL L b on).2) := by
  have HB := Aside0.mk hB
  have HT := Aside0.mk hT
  clear hB hT
  have h6 : ∀ w5, Below w.heap.size w w5 → Calls Try.prog 16 #[.pointer (some ⟨gc, 0, none⟩), .int .i64 b, .bool on] w5 fun e w' => e = .returned (.int .i64 (pinL L b on).1) ∧ Aside0 (AC w0.heap.size (fun k => (Pc k ∧ k < w.heap.size) ∨ w5.heap.size ≤ k) w' gc most (pinL L b on).2 ∧ Below w0.heap.size w0 w' ∧ Kept w5 w' (fun k => Pc k ∧ k < w.heap.size)) := fun w5 hb =>
    (Pin_A gc _ most L b w0 w5 on (below_then HB.out HB.out.size hb) ((HT.out.ac.bound).below hb) hi).mono fun e w' h => ⟨h.1, ⟨AC.fresh _ _ _ _ _ h.2.1, h.2.2.1, h.2.2.2⟩⟩
  have h7 : ∀ w5 w6, Below w.heap.size w w5 → Aside0 (AC w0.heap.size (fun k => (Pc k ∧ k < w.heap.size) ∨ w5.heap.size ≤ k) w6 gc most (pinL L b on).2 ∧ Below w0.heap.size w0 w6 ∧ Kept w5 w6 (fun k => Pc k ∧ k < w.heap.size)) → Calls Try.prog 37 #[.pointer (some ⟨gr, 0, none⟩), .int .i64 b, .bool on] w6 fun e w' => e = .returned (.int .i64 (pinL L b on).1) ∧ Aside0 (Done Pc Pr w0 w w' gc gr most (pinL L b on).2) := fun w5 w6 hb ha =>
    (Pin_R gr _ most L b w0 w6 on ha.out.2.1 (other HT.out hb ha.out.2.2) hi).mono fun e w' h => ⟨h.1, ⟨both HT.out hb ha.out.1 ha.out.2.2 (AR.fresh _ _ _ _ _ h.2.1) h.2.2.1 h.2.2.2⟩⟩
  have hx : ∀ w5 w6 gx, w.heap.size = gx → w5.heap[gx]? = some (.cells #[.int .i64 (1 : Int), .int .i64 b, .bool on] 50 (0, 0)) → Kept w5 w6 (fun k => Pc k ∧ k < w.heap.size) → w6.cell? ⟨gx, 1, none⟩ = some (.int .i64 b) ∧ w6.cell? ⟨gx, 2, none⟩ = some (.bool on) := fun w5 w6 gx hg hx hk => ⟨(blk_cell (box_kept (n := 0) hx (Nat.le_of_eq hg) hk) 1).trans rfl, (blk_cell (box_kept (n := 0) hx (Nat.le_of_eq hg) hk) 2).trans rfl⟩
  generalize (pinL L b on).1 = r1 at *
  go_enter Try.func24, Try.ntmps24
  go_upto_region 7 with (first | ((with_reducible refine gate_dst (N := 5) rfl ?_); refine box_event ?hg (N := 5) ?hd (cs := #[.int .i64 1, .int .i64 b, .bool on]) (t := 50) ?hr ?_; (case hd => rfl); (case hg => rfl); (case hr => first | (go_simp; done) | (go_simp; rfl)); intro gx hgx w5 hbox hb; have x0 : w5.cell? ⟨gx, 0, none⟩ = some (.int .i64 1) := (blk_cell hbox 0).trans rfl; have x1 : w5.cell? ⟨gx, 1, none⟩ = some (.int .i64 b) := (blk_cell hbox 1).trans rfl; have x2 : w5.cell? ⟨gx, 2, none⟩ = some (.bool on) := (blk_cell hbox 2).trans rfl; have HX5 := Aside0.mk hbox; have HI5 := Aside0.mk hgx; have HB5 := Aside0.mk hb; clear hb hbox hgx))
  refine start_ (n := 14) (S := fun w' => w'.cell? ⟨gx, 1, none⟩ = some (.int .i64 b) ∧ w'.cell? ⟨gx, 2, none⟩ = some (.bool on)) (ds := [11]) #[false, false, false, false, false, false, false, false, false, false, false, false, false, false] (by kernel_rfl) rfl rfl ⟨x1, x2⟩ (fun hHeld => ?_); refine with_tabW do7_tab7 do7_bits7 (fun HT_ HW_ => ?_)
  refine pure_ (i := 0) (N := some 39) (v := ?_) (a' := ?_) #[true, false, false, false, false, false, false, false, false, false, false, false, false, false] rfl rfl (any_of HT_.out (by kernel_rfl)) (fun _ _ _ h => h) (Or.inl ⟨by rfl, ?_⟩) ?_ ?_
  rotate_left
  · intro w'
    go_simp
    with_reducible rfl
  rotate_left
  · simp only [Act.put, List.setIfInBounds_toArray, List.set_cons_zero, List.set_cons_succ, i64_w, i32_w]
    rfl
  refine pure_ (i := 1) (N := some 40) (v := ?_) (a' := ?_) #[true, true, false, false, false, false, false, false, false, false, false, false, false, false] rfl rfl (any_of HT_.out (by kernel_rfl)) (fun _ _ _ h => h) (Or.inl ⟨by rfl, ?_⟩) ?_ ?_
  rotate_left
  · intro w'
    go_simp
    with_reducible rfl
  rotate_left
  · simp only [Act.put, List.setIfInBounds_toArray, List.set_cons_zero, List.set_cons_succ, i64_w, i32_w]
    rfl
  refine take_ (i := 2) (N := some 41) (v := ?_) (a' := ?_) #[true, true, true, false, false, false, false, false, false, false, false, false, false, false] rfl rfl (take_ofW HT_.out HW_.out (by kernel_rfl)) (fun _ _ _ h => h) (Or.inl ⟨by rfl, ?_⟩) hHeld ?_ ?_
  rotate_left
  · rintro w' ⟨s0, s1⟩
    go_simp
    with_reducible rfl
  rotate_left
  · simp only [Act.put, List.setIfInBounds_toArray, List.set_cons_zero, List.set_cons_succ, i64_w, i32_w]
    rfl
  refine pure_ (i := 3) (N := some 42) (v := ?_) (a' := ?_) #[true, true, true, true, false, false, false, false, false, false, false, false, false, false] rfl rfl (any_of HT_.out (by kernel_rfl)) (fun _ _ _ h => h) (Or.inl ⟨by rfl, ?_⟩) ?_ ?_
  rotate_left
  · intro w'
    go_simp
    with_reducible rfl
  rotate_left
  · simp only [Act.put, List.setIfInBounds_toArray, List.set_cons_zero, List.set_cons_succ, i64_w, i32_w]
    rfl
  refine take_ (i := 4) (N := some 43) (v := ?_) (a' := ?_) #[true, true, true, true, true, false, false, false, false, false, false, false, false, false] rfl rfl (take_ofW HT_.out HW_.out (by kernel_rfl)) (fun _ _ _ h => h) (Or.inl ⟨by rfl, ?_⟩) hHeld ?_ ?_
  rotate_left
  · rintro w' ⟨s0, s1⟩
    go_simp
    with_reducible rfl
  rotate_left
  · simp only [Act.put, List.setIfInBounds_toArray, List.set_cons_zero, List.set_cons_succ, i64_w, i32_w]
    rfl
  refine pure_ (i := 6) (N := some 45) (v := ?_) (a' := ?_) #[true, true, true, true, true, false, true, false, false, false, false, false, false, false] rfl rfl (any_of HT_.out (by kernel_rfl)) (fun _ _ _ h => h) (Or.inl ⟨by rfl, ?_⟩) ?_ ?_
  rotate_left
  · intro w'
    go_simp
    with_reducible rfl
  rotate_left
  · simp only [Act.put, List.setIfInBounds_toArray, List.set_cons_zero, List.set_cons_succ, i64_w, i32_w]
    rfl
  refine pure_ (i := 7) (N := some 46) (v := ?_) (a' := ?_) #[true, true, true, true, true, false, true, true, false, false, false, false, false, false] rfl rfl (any_of HT_.out (by kernel_rfl)) (fun _ _ _ h => h) (Or.inl ⟨by rfl, ?_⟩) ?_ ?_
  rotate_left
  · intro w'
    go_simp
    with_reducible rfl
  rotate_left
  · simp only [Act.put, List.setIfInBounds_toArray, List.set_cons_zero, List.set_cons_succ, i64_w, i32_w]
    rfl
  refine take_ (i := 8) (N := some 47) (v := ?_) (a' := ?_) #[true, true, true, true, true, false, true, true, true, false, false, false, false, false] rfl rfl (take_ofW HT_.out HW_.out (by kernel_rfl)) (fun _ _ _ h => h) (Or.inl ⟨by rfl, ?_⟩) hHeld ?_ ?_
  rotate_left
  · rintro w' ⟨s0, s1⟩
    go_simp
    with_reducible rfl
  rotate_left
  · simp only [Act.put, List.setIfInBounds_toArray, List.set_cons_zero, List.set_cons_succ, i64_w, i32_w]
    rfl
  refine pure_ (i := 9) (N := some 48) (v := ?_) (a' := ?_) #[true, true, true, true, true, false, true, true, true, true, false, false, false, false] rfl rfl (any_of HT_.out (by kernel_rfl)) (fun _ _ _ h => h) (Or.inl ⟨by rfl, ?_⟩) ?_ ?_
  rotate_left
  · intro w'
    go_simp
    with_reducible rfl
  rotate_left
  · simp only [Act.put, List.setIfInBounds_toArray, List.set_cons_zero, List.set_cons_succ, i64_w, i32_w]
    rfl
  refine take_ (i := 10) (N := some 49) (v := ?_) (a' := ?_) #[true, true, true, true, true, false, true, true, true, true, true, false, false, false] rfl rfl (take_ofW HT_.out HW_.out (by kernel_rfl)) (fun _ _ _ h => h) (Or.inl ⟨by rfl, ?_⟩) hHeld ?_ ?_
  rotate_left
  · rintro w' ⟨s0, s1⟩
    go_simp
    with_reducible rfl
  rotate_left
  · simp only [Act.put, List.setIfInBounds_toArray, List.set_cons_zero, List.set_cons_succ, i64_w, i32_w]
    rfl
  refine one_ (i := 5) (N := some 44) #[true, true, true, true, true, true, true, true, true, true, true, false, false, false] rfl rfl (one_of HT_.out (by kernel_rfl)) (by decide) (fun K hK => ?_)
  refine goes_ Try.func16 (by kernel_rfl) rfl #[.pointer (some ⟨gc, 0, none⟩), .int .i64 b, .bool on] (by rfl) rfl rfl (by (try simp only [List.map_toArray, List.map_cons, List.map_nil]); rfl) ?_
  with_reducible refine (h6 _ (below_drew HB5.out)).mono ?_
  rintro e w6 ⟨rfl, ha⟩
  refine ⟨_, rfl, ?_⟩
  have hx6 := hx _ _ _ HI5.out.symm (blk_drew HX5.out) ha.out.2.2
  clear hHeld
  refine hK.out _ _ ⟨hx6.1, hx6.2⟩ (fun hHeld => ?_)
  clear hK K
  refine norm_ (a' := ?_) ?_ ?_
  rotate_left
  · show Act.put _ (some 44) _ = _
    simp only [Act.put, List.setIfInBounds_toArray, List.set_cons_zero, List.set_cons_succ, i64_w, i32_w]
    rfl
  refine last_ (i := 11) (N := some 50) #[true, true, true, true, true, true, true, true, true, true, true, true, false, false] rfl rfl (one_of HT_.out (by kernel_rfl)) (by decide) (fun K hK => ?_)
  refine goes_ Try.func37 (by kernel_rfl) rfl #[.pointer (some ⟨gr, 0, none⟩), .int .i64 b, .bool on] (by rfl) rfl rfl (by (try simp only [List.map_toArray, List.map_cons, List.map_nil]); rfl) ?_
  with_reducible refine (h7 _ _ (below_drew HB5.out) ha).mono ?_
  rintro e w7 ⟨rfl, hd⟩
  refine ⟨_, rfl, ?_⟩
  clear hHeld
  refine hK.out _ _ ?_
  clear hK K
  refine norm_ (a' := ?_) ?_ ?_
  rotate_left
  · show Act.put _ (some 50) _ = _
    simp only [Act.put, List.setIfInBounds_toArray, List.set_cons_zero, List.set_cons_succ, i64_w, i32_w]
    rfl
  refine pure_ (i := 12) (N := some 51) (v := ?_) (a' := ?_) #[true, true, true, true, true, true, true, true, true, true, true, true, true, false] rfl rfl (any_of HT_.out (by kernel_rfl)) (fun _ _ _ h => h) (Or.inl ⟨by rfl, ?_⟩) ?_ ?_
  rotate_left
  · intro w'
    go_simp
    with_reducible rfl
  rotate_left
  · simp only [Act.put, List.setIfInBounds_toArray, List.set_cons_zero, List.set_cons_succ, i64_w, i32_w]
    rfl
  refine pure_ (i := 13) (N := some 6) (v := ?_) (a' := ?_) #[true, true, true, true, true, true, true, true, true, true, true, true, true, true] rfl rfl (any_of HT_.out (by kernel_rfl)) (fun _ _ _ h => h) (Or.inl ⟨by rfl, ?_⟩) ?_ ?_
  rotate_left
  · intro w'
    go_simp
    with_reducible rfl
  rotate_left
  · simp only [Act.put, List.setIfInBounds_toArray, List.set_cons_zero, List.set_cons_succ, i64_w, i32_w]
    rfl
  refine done_ (done_of HT_.out (by kernel_rfl)) ?_
  go_wp2
  go_ret
  exact ⟨rfl, hd.out⟩
def do9_T9 : Bool × List (List Nat × List Nat) := (true, [([], []), ([], []), ([1], [1]), ([], []), ([3], [3]), ([0, 2, 4], [0, 2, 4]), ([], []), ([], []), ([7], [7]), ([], []), ([9], [9]), ([6, 8, 10, 5], [6, 8, 10]), ([5, 11], [5, 11]), ([12, 11, 0, 1, 2, 3, 4, 5, 6, 7, 8, 9, 10, 11, 12], [12])])
def do9_B9 : List Nat := [0, 0, 2, 0, 8, 31, 0, 0, 128, 0, 512, 2047, 4095, 8191]
theorem do9_tab9 : rtab .any (opsOf Try.f24 9) = do9_T9 := by kernel_rfl
theorem do9_bits9 : waitsOk do9_T9.2 do9_B9 = true := by kernel_rfl
set_option maxHeartbeats 2000000 in
set_option maxRecDepth 100000 in
theorem do_dirty {k : Nat} (Pc Pr : Nat → Prop) (gc gr : Nat) (most : Int) (L : List S59) (b : Int) (on : Bool) (w0 w : World) (hB : Below w0.heap.size w0 w) (hT : Two w0.heap.size Pc Pr w gc gr most L) (hi : Inv k most L) : Calls Try.prog 24 #[.pointer (some ⟨gc, 0, none⟩), .pointer (some ⟨gr, 0, none⟩), .agg #[.int .i64 2, .int .i64 b, .bool on]] w fun e w' => e = .returned (.bool true) ∧ Done Pc Pr w0 w w' gc gr most ((dirtyL L b on).2) := by
  have HB := Aside0.mk hB
  have HT := Aside0.mk hT
  clear hB hT
  have h6 : ∀ w5, Below w.heap.size w w5 → Calls Try.prog 17 #[.pointer (some ⟨gc, 0, none⟩), .int .i64 b, .bool on] w5 fun e w' => e = .returned (.int .i64 (dirtyL L b on).1) ∧ Aside0 (AC w0.heap.size (fun k => (Pc k ∧ k < w.heap.size) ∨ w5.heap.size ≤ k) w' gc most (dirtyL L b on).2 ∧ Below w0.heap.size w0 w' ∧ Kept w5 w' (fun k => Pc k ∧ k < w.heap.size)) := fun w5 hb =>
    (Dirty_A gc _ most L b w0 w5 on (below_then HB.out HB.out.size hb) ((HT.out.ac.bound).below hb) hi).mono fun e w' h => ⟨h.1, ⟨AC.fresh _ _ _ _ _ h.2.1, h.2.2.1, h.2.2.2⟩⟩
  have h7 : ∀ w5 w6, Below w.heap.size w w5 → Aside0 (AC w0.heap.size (fun k => (Pc k ∧ k < w.heap.size) ∨ w5.heap.size ≤ k) w6 gc most (dirtyL L b on).2 ∧ Below w0.heap.size w0 w6 ∧ Kept w5 w6 (fun k => Pc k ∧ k < w.heap.size)) → Calls Try.prog 38 #[.pointer (some ⟨gr, 0, none⟩), .int .i64 b, .bool on] w6 fun e w' => e = .returned (.int .i64 (dirtyL L b on).1) ∧ Aside0 (Done Pc Pr w0 w w' gc gr most (dirtyL L b on).2) := fun w5 w6 hb ha =>
    (Dirty_R gr _ most L b w0 w6 on ha.out.2.1 (other HT.out hb ha.out.2.2) hi).mono fun e w' h => ⟨h.1, ⟨both HT.out hb ha.out.1 ha.out.2.2 (AR.fresh _ _ _ _ _ h.2.1) h.2.2.1 h.2.2.2⟩⟩
  have hx : ∀ w5 w6 gx, w.heap.size = gx → w5.heap[gx]? = some (.cells #[.int .i64 (2 : Int), .int .i64 b, .bool on] 50 (0, 0)) → Kept w5 w6 (fun k => Pc k ∧ k < w.heap.size) → w6.cell? ⟨gx, 1, none⟩ = some (.int .i64 b) ∧ w6.cell? ⟨gx, 2, none⟩ = some (.bool on) := fun w5 w6 gx hg hx hk => ⟨(blk_cell (box_kept (n := 0) hx (Nat.le_of_eq hg) hk) 1).trans rfl, (blk_cell (box_kept (n := 0) hx (Nat.le_of_eq hg) hk) 2).trans rfl⟩
  generalize (dirtyL L b on).1 = r1 at *
  go_enter Try.func24, Try.ntmps24
  go_upto_region 9 with (first | ((with_reducible refine gate_dst (N := 5) rfl ?_); refine box_event ?hg (N := 5) ?hd (cs := #[.int .i64 2, .int .i64 b, .bool on]) (t := 50) ?hr ?_; (case hd => rfl); (case hg => rfl); (case hr => first | (go_simp; done) | (go_simp; rfl)); intro gx hgx w5 hbox hb; have x0 : w5.cell? ⟨gx, 0, none⟩ = some (.int .i64 2) := (blk_cell hbox 0).trans rfl; have x1 : w5.cell? ⟨gx, 1, none⟩ = some (.int .i64 b) := (blk_cell hbox 1).trans rfl; have x2 : w5.cell? ⟨gx, 2, none⟩ = some (.bool on) := (blk_cell hbox 2).trans rfl; have HX5 := Aside0.mk hbox; have HI5 := Aside0.mk hgx; have HB5 := Aside0.mk hb; clear hb hbox hgx))
  refine start_ (n := 14) (S := fun w' => w'.cell? ⟨gx, 1, none⟩ = some (.int .i64 b) ∧ w'.cell? ⟨gx, 2, none⟩ = some (.bool on)) (ds := [11]) #[false, false, false, false, false, false, false, false, false, false, false, false, false, false] (by kernel_rfl) rfl rfl ⟨x1, x2⟩ (fun hHeld => ?_); refine with_tabW do9_tab9 do9_bits9 (fun HT_ HW_ => ?_)
  refine pure_ (i := 0) (N := some 54) (v := ?_) (a' := ?_) #[true, false, false, false, false, false, false, false, false, false, false, false, false, false] rfl rfl (any_of HT_.out (by kernel_rfl)) (fun _ _ _ h => h) (Or.inl ⟨by rfl, ?_⟩) ?_ ?_
  rotate_left
  · intro w'
    go_simp
    with_reducible rfl
  rotate_left
  · simp only [Act.put, List.setIfInBounds_toArray, List.set_cons_zero, List.set_cons_succ, i64_w, i32_w]
    rfl
  refine pure_ (i := 1) (N := some 55) (v := ?_) (a' := ?_) #[true, true, false, false, false, false, false, false, false, false, false, false, false, false] rfl rfl (any_of HT_.out (by kernel_rfl)) (fun _ _ _ h => h) (Or.inl ⟨by rfl, ?_⟩) ?_ ?_
  rotate_left
  · intro w'
    go_simp
    with_reducible rfl
  rotate_left
  · simp only [Act.put, List.setIfInBounds_toArray, List.set_cons_zero, List.set_cons_succ, i64_w, i32_w]
    rfl
  refine take_ (i := 2) (N := some 56) (v := ?_) (a' := ?_) #[true, true, true, false, false, false, false, false, false, false, false, false, false, false] rfl rfl (take_ofW HT_.out HW_.out (by kernel_rfl)) (fun _ _ _ h => h) (Or.inl ⟨by rfl, ?_⟩) hHeld ?_ ?_
  rotate_left
  · rintro w' ⟨s0, s1⟩
    go_simp
    with_reducible rfl
  rotate_left
  · simp only [Act.put, List.setIfInBounds_toArray, List.set_cons_zero, List.set_cons_succ, i64_w, i32_w]
    rfl
  refine pure_ (i := 3) (N := some 57) (v := ?_) (a' := ?_) #[true, true, true, true, false, false, false, false, false, false, false, false, false, false] rfl rfl (any_of HT_.out (by kernel_rfl)) (fun _ _ _ h => h) (Or.inl ⟨by rfl, ?_⟩) ?_ ?_
  rotate_left
  · intro w'
    go_simp
    with_reducible rfl
  rotate_left
  · simp only [Act.put, List.setIfInBounds_toArray, List.set_cons_zero, List.set_cons_succ, i64_w, i32_w]
    rfl
  refine take_ (i := 4) (N := some 58) (v := ?_) (a' := ?_) #[true, true, true, true, true, false, false, false, false, false, false, false, false, false] rfl rfl (take_ofW HT_.out HW_.out (by kernel_rfl)) (fun _ _ _ h => h) (Or.inl ⟨by rfl, ?_⟩) hHeld ?_ ?_
  rotate_left
  · rintro w' ⟨s0, s1⟩
    go_simp
    with_reducible rfl
  rotate_left
  · simp only [Act.put, List.setIfInBounds_toArray, List.set_cons_zero, List.set_cons_succ, i64_w, i32_w]
    rfl
  refine pure_ (i := 6) (N := some 60) (v := ?_) (a' := ?_) #[true, true, true, true, true, false, true, false, false, false, false, false, false, false] rfl rfl (any_of HT_.out (by kernel_rfl)) (fun _ _ _ h => h) (Or.inl ⟨by rfl, ?_⟩) ?_ ?_
  rotate_left
  · intro w'
    go_simp
    with_reducible rfl
  rotate_left
  · simp only [Act.put, List.setIfInBounds_toArray, List.set_cons_zero, List.set_cons_succ, i64_w, i32_w]
    rfl
  refine pure_ (i := 7) (N := some 61) (v := ?_) (a' := ?_) #[true, true, true, true, true, false, true, true, false, false, false, false, false, false] rfl rfl (any_of HT_.out (by kernel_rfl)) (fun _ _ _ h => h) (Or.inl ⟨by rfl, ?_⟩) ?_ ?_
  rotate_left
  · intro w'
    go_simp
    with_reducible rfl
  rotate_left
  · simp only [Act.put, List.setIfInBounds_toArray, List.set_cons_zero, List.set_cons_succ, i64_w, i32_w]
    rfl
  refine take_ (i := 8) (N := some 62) (v := ?_) (a' := ?_) #[true, true, true, true, true, false, true, true, true, false, false, false, false, false] rfl rfl (take_ofW HT_.out HW_.out (by kernel_rfl)) (fun _ _ _ h => h) (Or.inl ⟨by rfl, ?_⟩) hHeld ?_ ?_
  rotate_left
  · rintro w' ⟨s0, s1⟩
    go_simp
    with_reducible rfl
  rotate_left
  · simp only [Act.put, List.setIfInBounds_toArray, List.set_cons_zero, List.set_cons_succ, i64_w, i32_w]
    rfl
  refine pure_ (i := 9) (N := some 63) (v := ?_) (a' := ?_) #[true, true, true, true, true, false, true, true, true, true, false, false, false, false] rfl rfl (any_of HT_.out (by kernel_rfl)) (fun _ _ _ h => h) (Or.inl ⟨by rfl, ?_⟩) ?_ ?_
  rotate_left
  · intro w'
    go_simp
    with_reducible rfl
  rotate_left
  · simp only [Act.put, List.setIfInBounds_toArray, List.set_cons_zero, List.set_cons_succ, i64_w, i32_w]
    rfl
  refine take_ (i := 10) (N := some 64) (v := ?_) (a' := ?_) #[true, true, true, true, true, false, true, true, true, true, true, false, false, false] rfl rfl (take_ofW HT_.out HW_.out (by kernel_rfl)) (fun _ _ _ h => h) (Or.inl ⟨by rfl, ?_⟩) hHeld ?_ ?_
  rotate_left
  · rintro w' ⟨s0, s1⟩
    go_simp
    with_reducible rfl
  rotate_left
  · simp only [Act.put, List.setIfInBounds_toArray, List.set_cons_zero, List.set_cons_succ, i64_w, i32_w]
    rfl
  refine one_ (i := 5) (N := some 59) #[true, true, true, true, true, true, true, true, true, true, true, false, false, false] rfl rfl (one_of HT_.out (by kernel_rfl)) (by decide) (fun K hK => ?_)
  refine goes_ Try.func17 (by kernel_rfl) rfl #[.pointer (some ⟨gc, 0, none⟩), .int .i64 b, .bool on] (by rfl) rfl rfl (by (try simp only [List.map_toArray, List.map_cons, List.map_nil]); rfl) ?_
  with_reducible refine (h6 _ (below_drew HB5.out)).mono ?_
  rintro e w6 ⟨rfl, ha⟩
  refine ⟨_, rfl, ?_⟩
  have hx6 := hx _ _ _ HI5.out.symm (blk_drew HX5.out) ha.out.2.2
  clear hHeld
  refine hK.out _ _ ⟨hx6.1, hx6.2⟩ (fun hHeld => ?_)
  clear hK K
  refine norm_ (a' := ?_) ?_ ?_
  rotate_left
  · show Act.put _ (some 59) _ = _
    simp only [Act.put, List.setIfInBounds_toArray, List.set_cons_zero, List.set_cons_succ, i64_w, i32_w]
    rfl
  refine last_ (i := 11) (N := some 65) #[true, true, true, true, true, true, true, true, true, true, true, true, false, false] rfl rfl (one_of HT_.out (by kernel_rfl)) (by decide) (fun K hK => ?_)
  refine goes_ Try.func38 (by kernel_rfl) rfl #[.pointer (some ⟨gr, 0, none⟩), .int .i64 b, .bool on] (by rfl) rfl rfl (by (try simp only [List.map_toArray, List.map_cons, List.map_nil]); rfl) ?_
  with_reducible refine (h7 _ _ (below_drew HB5.out) ha).mono ?_
  rintro e w7 ⟨rfl, hd⟩
  refine ⟨_, rfl, ?_⟩
  clear hHeld
  refine hK.out _ _ ?_
  clear hK K
  refine norm_ (a' := ?_) ?_ ?_
  rotate_left
  · show Act.put _ (some 65) _ = _
    simp only [Act.put, List.setIfInBounds_toArray, List.set_cons_zero, List.set_cons_succ, i64_w, i32_w]
    rfl
  refine pure_ (i := 12) (N := some 66) (v := ?_) (a' := ?_) #[true, true, true, true, true, true, true, true, true, true, true, true, true, false] rfl rfl (any_of HT_.out (by kernel_rfl)) (fun _ _ _ h => h) (Or.inl ⟨by rfl, ?_⟩) ?_ ?_
  rotate_left
  · intro w'
    go_simp
    with_reducible rfl
  rotate_left
  · simp only [Act.put, List.setIfInBounds_toArray, List.set_cons_zero, List.set_cons_succ, i64_w, i32_w]
    rfl
  refine pure_ (i := 13) (N := some 6) (v := ?_) (a' := ?_) #[true, true, true, true, true, true, true, true, true, true, true, true, true, true] rfl rfl (any_of HT_.out (by kernel_rfl)) (fun _ _ _ h => h) (Or.inl ⟨by rfl, ?_⟩) ?_ ?_
  rotate_left
  · intro w'
    go_simp
    with_reducible rfl
  rotate_left
  · simp only [Act.put, List.setIfInBounds_toArray, List.set_cons_zero, List.set_cons_succ, i64_w, i32_w]
    rfl
  refine done_ (done_of HT_.out (by kernel_rfl)) ?_
  go_wp2
  go_ret
  exact ⟨rfl, hd.out⟩
def do11_T11 : Bool × List (List Nat × List Nat) := (true, [([], []), ([], []), ([1], [1]), ([0, 2], [0, 2]), ([], []), ([], []), ([5], [5]), ([4, 6, 3], [4, 6]), ([3, 7], [3, 7]), ([8, 7, 0, 1, 2, 3, 4, 5, 6, 7, 8], [8])])
def do11_B11 : List Nat := [0, 0, 2, 7, 0, 0, 32, 127, 255, 511]
theorem do11_tab11 : rtab .any (opsOf Try.f24 11) = do11_T11 := by kernel_rfl
theorem do11_bits11 : waitsOk do11_T11.2 do11_B11 = true := by kernel_rfl
set_option maxHeartbeats 2000000 in
set_option maxRecDepth 100000 in
theorem do_drop {k : Nat} (Pc Pr : Nat → Prop) (gc gr : Nat) (most : Int) (L : List S59) (b : Int) (on : Bool) (w0 w : World) (hB : Below w0.heap.size w0 w) (hT : Two w0.heap.size Pc Pr w gc gr most L) (hi : Inv k most L) : Calls Try.prog 24 #[.pointer (some ⟨gc, 0, none⟩), .pointer (some ⟨gr, 0, none⟩), .agg #[.int .i64 3, .int .i64 b, .bool on]] w fun e w' => e = .returned (.bool true) ∧ Done Pc Pr w0 w w' gc gr most ((dropL L b).2) := by
  have HB := Aside0.mk hB
  have HT := Aside0.mk hT
  clear hB hT
  have h6 : ∀ w5, Below w.heap.size w w5 → Calls Try.prog 18 #[.pointer (some ⟨gc, 0, none⟩), .int .i64 b] w5 fun e w' => e = .returned (.int .i64 (dropL L b).1) ∧ Aside0 (AC w0.heap.size (fun k => (Pc k ∧ k < w.heap.size) ∨ w5.heap.size ≤ k) w' gc most (dropL L b).2 ∧ Below w0.heap.size w0 w' ∧ Kept w5 w' (fun k => Pc k ∧ k < w.heap.size)) := fun w5 hb =>
    (Drop_A gc _ most L b w0 w5 (below_then HB.out HB.out.size hb) ((HT.out.ac.bound).below hb) hi).mono fun e w' h => ⟨h.1, ⟨h.2.1, h.2.2.1, h.2.2.2⟩⟩
  have h7 : ∀ w5 w6, Below w.heap.size w w5 → Aside0 (AC w0.heap.size (fun k => (Pc k ∧ k < w.heap.size) ∨ w5.heap.size ≤ k) w6 gc most (dropL L b).2 ∧ Below w0.heap.size w0 w6 ∧ Kept w5 w6 (fun k => Pc k ∧ k < w.heap.size)) → Calls Try.prog 39 #[.pointer (some ⟨gr, 0, none⟩), .int .i64 b] w6 fun e w' => e = .returned (.int .i64 (dropL L b).1) ∧ Aside0 (Done Pc Pr w0 w w' gc gr most (dropL L b).2) := fun w5 w6 hb ha =>
    (Drop_R gr _ most L b w0 w6 ha.out.2.1 (other HT.out hb ha.out.2.2) hi).mono fun e w' h => ⟨h.1, ⟨both HT.out hb ha.out.1 ha.out.2.2 (h.2.1) h.2.2.1 h.2.2.2⟩⟩
  have hx : ∀ w5 w6 gx, w.heap.size = gx → w5.heap[gx]? = some (.cells #[.int .i64 (3 : Int), .int .i64 b, .bool on] 50 (0, 0)) → Kept w5 w6 (fun k => Pc k ∧ k < w.heap.size) → w6.cell? ⟨gx, 1, none⟩ = some (.int .i64 b) ∧ w6.cell? ⟨gx, 2, none⟩ = some (.bool on) := fun w5 w6 gx hg hx hk => ⟨(blk_cell (box_kept (n := 0) hx (Nat.le_of_eq hg) hk) 1).trans rfl, (blk_cell (box_kept (n := 0) hx (Nat.le_of_eq hg) hk) 2).trans rfl⟩
  generalize (dropL L b).1 = r1 at *
  go_enter Try.func24, Try.ntmps24
  go_upto_region 11 with (first | ((with_reducible refine gate_dst (N := 5) rfl ?_); refine box_event ?hg (N := 5) ?hd (cs := #[.int .i64 3, .int .i64 b, .bool on]) (t := 50) ?hr ?_; (case hd => rfl); (case hg => rfl); (case hr => first | (go_simp; done) | (go_simp; rfl)); intro gx hgx w5 hbox hb; have x0 : w5.cell? ⟨gx, 0, none⟩ = some (.int .i64 3) := (blk_cell hbox 0).trans rfl; have x1 : w5.cell? ⟨gx, 1, none⟩ = some (.int .i64 b) := (blk_cell hbox 1).trans rfl; have x2 : w5.cell? ⟨gx, 2, none⟩ = some (.bool on) := (blk_cell hbox 2).trans rfl; have HX5 := Aside0.mk hbox; have HI5 := Aside0.mk hgx; have HB5 := Aside0.mk hb; clear hb hbox hgx))
  refine start_ (n := 10) (S := fun w' => w'.cell? ⟨gx, 1, none⟩ = some (.int .i64 b) ∧ w'.cell? ⟨gx, 2, none⟩ = some (.bool on)) (ds := [7]) #[false, false, false, false, false, false, false, false, false, false] (by kernel_rfl) rfl rfl ⟨x1, x2⟩ (fun hHeld => ?_); refine with_tabW do11_tab11 do11_bits11 (fun HT_ HW_ => ?_)
  refine pure_ (i := 0) (N := some 69) (v := ?_) (a' := ?_) #[true, false, false, false, false, false, false, false, false, false] rfl rfl (any_of HT_.out (by kernel_rfl)) (fun _ _ _ h => h) (Or.inl ⟨by rfl, ?_⟩) ?_ ?_
  rotate_left
  · intro w'
    go_simp
    with_reducible rfl
  rotate_left
  · simp only [Act.put, List.setIfInBounds_toArray, List.set_cons_zero, List.set_cons_succ, i64_w, i32_w]
    rfl
  refine pure_ (i := 1) (N := some 70) (v := ?_) (a' := ?_) #[true, true, false, false, false, false, false, false, false, false] rfl rfl (any_of HT_.out (by kernel_rfl)) (fun _ _ _ h => h) (Or.inl ⟨by rfl, ?_⟩) ?_ ?_
  rotate_left
  · intro w'
    go_simp
    with_reducible rfl
  rotate_left
  · simp only [Act.put, List.setIfInBounds_toArray, List.set_cons_zero, List.set_cons_succ, i64_w, i32_w]
    rfl
  refine take_ (i := 2) (N := some 71) (v := ?_) (a' := ?_) #[true, true, true, false, false, false, false, false, false, false] rfl rfl (take_ofW HT_.out HW_.out (by kernel_rfl)) (fun _ _ _ h => h) (Or.inl ⟨by rfl, ?_⟩) hHeld ?_ ?_
  rotate_left
  · rintro w' ⟨s0, s1⟩
    go_simp
    with_reducible rfl
  rotate_left
  · simp only [Act.put, List.setIfInBounds_toArray, List.set_cons_zero, List.set_cons_succ, i64_w, i32_w]
    rfl
  refine pure_ (i := 4) (N := some 73) (v := ?_) (a' := ?_) #[true, true, true, false, true, false, false, false, false, false] rfl rfl (any_of HT_.out (by kernel_rfl)) (fun _ _ _ h => h) (Or.inl ⟨by rfl, ?_⟩) ?_ ?_
  rotate_left
  · intro w'
    go_simp
    with_reducible rfl
  rotate_left
  · simp only [Act.put, List.setIfInBounds_toArray, List.set_cons_zero, List.set_cons_succ, i64_w, i32_w]
    rfl
  refine pure_ (i := 5) (N := some 74) (v := ?_) (a' := ?_) #[true, true, true, false, true, true, false, false, false, false] rfl rfl (any_of HT_.out (by kernel_rfl)) (fun _ _ _ h => h) (Or.inl ⟨by rfl, ?_⟩) ?_ ?_
  rotate_left
  · intro w'
    go_simp
    with_reducible rfl
  rotate_left
  · simp only [Act.put, List.setIfInBounds_toArray, List.set_cons_zero, List.set_cons_succ, i64_w, i32_w]
    rfl
  refine take_ (i := 6) (N := some 75) (v := ?_) (a' := ?_) #[true, true, true, false, true, true, true, false, false, false] rfl rfl (take_ofW HT_.out HW_.out (by kernel_rfl)) (fun _ _ _ h => h) (Or.inl ⟨by rfl, ?_⟩) hHeld ?_ ?_
  rotate_left
  · rintro w' ⟨s0, s1⟩
    go_simp
    with_reducible rfl
  rotate_left
  · simp only [Act.put, List.setIfInBounds_toArray, List.set_cons_zero, List.set_cons_succ, i64_w, i32_w]
    rfl
  refine one_ (i := 3) (N := some 72) #[true, true, true, true, true, true, true, false, false, false] rfl rfl (one_of HT_.out (by kernel_rfl)) (by decide) (fun K hK => ?_)
  refine goes_ Try.func18 (by kernel_rfl) rfl #[.pointer (some ⟨gc, 0, none⟩), .int .i64 b] (by rfl) rfl rfl (by (try simp only [List.map_toArray, List.map_cons, List.map_nil]); rfl) ?_
  with_reducible refine (h6 _ (below_drew HB5.out)).mono ?_
  rintro e w6 ⟨rfl, ha⟩
  refine ⟨_, rfl, ?_⟩
  have hx6 := hx _ _ _ HI5.out.symm (blk_drew HX5.out) ha.out.2.2
  clear hHeld
  refine hK.out _ _ ⟨hx6.1, hx6.2⟩ (fun hHeld => ?_)
  clear hK K
  refine norm_ (a' := ?_) ?_ ?_
  rotate_left
  · show Act.put _ (some 72) _ = _
    simp only [Act.put, List.setIfInBounds_toArray, List.set_cons_zero, List.set_cons_succ, i64_w, i32_w]
    rfl
  refine last_ (i := 7) (N := some 76) #[true, true, true, true, true, true, true, true, false, false] rfl rfl (one_of HT_.out (by kernel_rfl)) (by decide) (fun K hK => ?_)
  refine goes_ Try.func39 (by kernel_rfl) rfl #[.pointer (some ⟨gr, 0, none⟩), .int .i64 b] (by rfl) rfl rfl (by (try simp only [List.map_toArray, List.map_cons, List.map_nil]); rfl) ?_
  with_reducible refine (h7 _ _ (below_drew HB5.out) ha).mono ?_
  rintro e w7 ⟨rfl, hd⟩
  refine ⟨_, rfl, ?_⟩
  clear hHeld
  refine hK.out _ _ ?_
  clear hK K
  refine norm_ (a' := ?_) ?_ ?_
  rotate_left
  · show Act.put _ (some 76) _ = _
    simp only [Act.put, List.setIfInBounds_toArray, List.set_cons_zero, List.set_cons_succ, i64_w, i32_w]
    rfl
  refine pure_ (i := 8) (N := some 77) (v := ?_) (a' := ?_) #[true, true, true, true, true, true, true, true, true, false] rfl rfl (any_of HT_.out (by kernel_rfl)) (fun _ _ _ h => h) (Or.inl ⟨by rfl, ?_⟩) ?_ ?_
  rotate_left
  · intro w'
    go_simp
    with_reducible rfl
  rotate_left
  · simp only [Act.put, List.setIfInBounds_toArray, List.set_cons_zero, List.set_cons_succ, i64_w, i32_w]
    rfl
  refine pure_ (i := 9) (N := some 6) (v := ?_) (a' := ?_) #[true, true, true, true, true, true, true, true, true, true] rfl rfl (any_of HT_.out (by kernel_rfl)) (fun _ _ _ h => h) (Or.inl ⟨by rfl, ?_⟩) ?_ ?_
  rotate_left
  · intro w'
    go_simp
    with_reducible rfl
  rotate_left
  · simp only [Act.put, List.setIfInBounds_toArray, List.set_cons_zero, List.set_cons_succ, i64_w, i32_w]
    rfl
  refine done_ (done_of HT_.out (by kernel_rfl)) ?_
  go_wp2
  go_ret
  exact ⟨rfl, hd.out⟩
set_option maxHeartbeats 2000000 in
set_option maxRecDepth 100000 in
theorem do_none (kind : Int) (hkind : kind ≠ 0 ∧ kind ≠ 1 ∧ kind ≠ 2 ∧ kind ≠ 3) {k : Nat} (Pc Pr : Nat → Prop) (gc gr : Nat) (most : Int) (L : List S59) (b : Int) (on : Bool) (w0 w : World) (hB : Below w0.heap.size w0 w) (hT : Two w0.heap.size Pc Pr w gc gr most L) (hi : Inv k most L) : Calls Try.prog 24 #[.pointer (some ⟨gc, 0, none⟩), .pointer (some ⟨gr, 0, none⟩), .agg #[.int .i64 kind, .int .i64 b, .bool on]] w fun e w' => e = .returned (.bool true) ∧ Done Pc Pr w0 w w' gc gr most (L) := by
  have HB := Aside0.mk hB
  have HT := Aside0.mk hT
  clear hB hT
  have d0 : (kind == 0) = false := by simpa using hkind.1
  have d1 : (kind == 1) = false := by simpa using hkind.2.1
  have d2 : (kind == 2) = false := by simpa using hkind.2.2.1
  have d3 : (kind == 3) = false := by simpa using hkind.2.2.2
  clear hkind
  go_enter Try.func24, Try.ntmps24
  go_wp2_with (first | ((with_reducible refine gate_dst (N := 5) rfl ?_); refine box_event ?hg (N := 5) ?hd (cs := #[.int .i64 kind, .int .i64 b, .bool on]) (t := 50) ?hr ?_; (case hd => rfl); (case hg => rfl); (case hr => first | (go_simp; done) | (go_simp; rfl)); intro gx hgx w5 hbox hb; have x0 : w5.cell? ⟨gx, 0, none⟩ = some (.int .i64 kind) := (blk_cell hbox 0).trans rfl; have x1 : w5.cell? ⟨gx, 1, none⟩ = some (.int .i64 b) := (blk_cell hbox 1).trans rfl; have x2 : w5.cell? ⟨gx, 2, none⟩ = some (.bool on) := (blk_cell hbox 2).trans rfl; have HX5 := Aside0.mk hbox; have HI5 := Aside0.mk hgx; have HB5 := Aside0.mk hb; clear hb hbox hgx))
  go_ret
  exact ⟨rfl, ⟨_, _, HT.out.below HB5.out, fun k h => .inl h, fun k h => .inl h⟩, below_then HB.out HB.out.size HB5.out, kept_below _ HB5.out⟩
theorem do_calls (kind : Int) {k : Nat} (Pc Pr : Nat → Prop) (gc gr : Nat) (most : Int) (L : List S59) (b : Int) (on : Bool) (w0 w : World) (hB : Below w0.heap.size w0 w) (hT : Two w0.heap.size Pc Pr w gc gr most L) (hi : Inv k most L) : Calls Try.prog 24 #[.pointer (some ⟨gc, 0, none⟩), .pointer (some ⟨gr, 0, none⟩), .agg #[.int .i64 kind, .int .i64 b, .bool on]] w fun e w' => e = .returned (.bool true) ∧ Done Pc Pr w0 w w' gc gr most (stepL most L kind b on) := by
  unfold stepL
  by_cases h0 : kind = 0
  · rw [if_pos h0, h0]; exact do_use Pc Pr gc gr most L b on w0 w hB hT hi
  · rw [if_neg h0]
    by_cases h1 : kind = 1
    · rw [if_pos h1, h1]; exact do_pin Pc Pr gc gr most L b on w0 w hB hT hi
    · rw [if_neg h1]
      by_cases h2 : kind = 2
      · rw [if_pos h2, h2]; exact do_dirty Pc Pr gc gr most L b on w0 w hB hT hi
      · rw [if_neg h2]
        by_cases h3 : kind = 3
        · rw [if_pos h3, h3]; exact do_drop Pc Pr gc gr most L b on w0 w hB hT hi
        · rw [if_neg h3]; exact do_none kind ⟨h0, h1, h2, h3⟩ Pc Pr gc gr most L b on w0 w hB hT hi
end Go.Proofs.Ytlmnagbfmkaglaa.CC
/-! Both caches tell the same; deeds played on both. -/
namespace Go.Proofs.Ytlmnagbfmkaglaa.CC
open Go.RowKit Go.Proofs.Ytlmnagbfmkaglaa.PG Go.Proofs.Ytlmnagbfmkaglaa.PI Go.Proofs.YtlmnagbfmkaglaaW.PrintWords Go.Proofs.YtlmnagbfmkaglaaW.PrintLast Go.Proofs.YtlmnagbfmkaglaaW.PrintMore
attribute [local go_sem] Oper.semAt_some
theorem same_l0 (l : List Int) (hn : l.length < 1000) : ∀ (k : Nat) (i : Nat), l.length < k + i → i ≤ l.length → selvedgeref01_Same.l0 k l l (i : Int) = some true
  | 0, i, h1, h2 => by omega
  | k + 1, i, h1, h2 => by
    unfold selvedgeref01_Same.l0
    by_cases h : i < l.length
    · rw [if_pos (by omega), if_pos (by omega), if_pos (by omega), if_pos rfl, show wrap64 ((i : Int) + 1) = ((i + 1 : Nat) : Int) by unfold wrap64; omega]
      exact same_l0 l hn k (i + 1) (by omega) (by omega)
    · rw [if_neg (by omega)]
theorem same_self (l : List Int) (hn : l.length < 1000) : selvedgeref01_Same.f (l.length + 1) l l = some true := by
  unfold selvedgeref01_Same.f
  rw [if_pos rfl]
  exact same_l0 l hn _ 0 (by omega) (by omega)
set_option maxHeartbeats 2000000 in
set_option maxRecDepth 100000 in
theorem same_calls {k : Nat} (B : Nat) (Pc Pr : Nat → Prop) (gc gr : Nat) (most : Int) (L : List S59) (w : World) (hT : Two B Pc Pr w gc gr most L) (hi : Inv k most L) :
    Calls Try.prog 19 #[.pointer (some ⟨gc, 0, none⟩), .pointer (some ⟨gr, 0, none⟩)] w fun e w' => e = .returned (.bool true) ∧ Below w.heap.size w w' := by
  have HT := Aside0.mk hT
  clear hT
  have h1 := fun (i : Int) (W : World) (hb : Below w.heap.size w W) => Has_A gc Pc most L i W (HT.out.below hb).ac hi
  have h2 := fun (i : Int) (W : World) (hb : Below w.heap.size w W) => Has_R gr Pr most L i W (HT.out.below hb).ar hi
  have h3 := fun (i : Int) (W : World) (hb : Below w.heap.size w W) => Pins_A gc Pc most L i W (HT.out.below hb).ac hi
  have h4 := fun (i : Int) (W : World) (hb : Below w.heap.size w W) => Pins_R gr Pr most L i W (HT.out.below hb).ar hi
  have h5 := fun (W : World) (hb : Below w.heap.size w W) => List_A gc Pc most L W (HT.out.below hb).ac hi
  have h6 := fun (W : World) (hb : Below w.heap.size w W) => List_R gr Pr most L W (HT.out.below hb).ar hi
  have hl : (L.map (·.f0)).length < 1000 := by rw [List.length_map]; exact hi.lt
  obtain ⟨X, hX⟩ : ∃ X, L.map (·.f0) = X := ⟨_, rfl⟩
  simp only [hX] at h5 h6
  rw [hX] at hl
  have HL := Aside0.mk hl
  have hs := same_self X hl
  clear hl hX
  go_enter Try.func19, Try.ntmps19
  go_wp2
  go_loopg [5] 15 (fun kq v5 w' => ∃ i : Int, (-1 ≤ i ∧ i + (kq : Int) = 14) ∧ v5 = .int .i64 i ∧ Aside0 (Below w.heap.size w w'))
  case atStart => exact ⟨-1, ⟨by decide, by decide⟩, rfl, ⟨Below.refl _ _⟩⟩
  case round =>
    obtain ⟨i, hiq, rfl, hb⟩ := hrel
    cases gk with
    | succ k1 =>
      have d1 : decide (i < 14) = true := by simp; omega
      have ew : Aside0 (wrap64 (i + 1) = i + 1) := ⟨by unfold wrap64; omega⟩
      obtain ⟨H, hH⟩ : ∃ H, hasC L i = H := ⟨_, rfl⟩
      obtain ⟨Q, hQ⟩ : ∃ Q, pinsC L i = Q := ⟨_, rfl⟩
      have g1 := h1 i
      have g2 := h2 i
      have g3 := h3 i
      have g4 := h4 i
      rw [hH] at g1 g2
      rw [hQ] at g3 g4
      go_wp2_with (first | (go_at_call 15; with_reducible refine (g1 _ hb.out).mono ?_; rintro e w1 ⟨rfl, hb1⟩; have HB1 := Aside0.mk (below_step hb.out hb1); clear hb1) | (go_at_call 32; with_reducible refine (g2 _ HB1.out).mono ?_; rintro e w2 ⟨rfl, hb2⟩; have HB2 := Aside0.mk (below_step HB1.out hb2); clear hb2) | (go_at_call 21; with_reducible refine (g3 _ HB2.out).mono ?_; rintro e w3 ⟨rfl, hb3⟩; have HB3 := Aside0.mk (below_step HB2.out hb3); clear hb3) | (go_at_call 33; with_reducible refine (g4 _ HB3.out).mono ?_; rintro e w4 ⟨rfl, hb4⟩; have HB4 := Aside0.mk (below_step HB3.out hb4); clear hb4))
      go_roundg k1
      case rel => exact ⟨i + 1, ⟨by omega, by omega⟩, by first | rfl | rw [ew.out], HB4⟩
      all_goals omega
    | zero =>
      have d1 : decide (i < 14) = false := by simp; omega
      go_upto_region 6 with (fail)
      go_wp2_with (first | (go_at_call 13; with_reducible refine (h5 _ hb.out).mono ?_; rintro e w1 ⟨⟨v1, rfl, ho1⟩, hb1⟩; obtain ⟨A1, c1, e1⟩ := Kd.R_slice ho1; subst e1; have HO1 := Aside0.mk ho1; have HB1 := Aside0.mk (below_step hb.out hb1); clear hb1 ho1) | (go_at_call 34; with_reducible refine (h6 _ HB1.out).mono ?_; rintro e w2 ⟨⟨v2, rfl, ho2⟩, hb2⟩; obtain ⟨A2, c2, e2⟩ := Kd.R_slice ho2; subst e2; have HO2 := Aside0.mk ho2; have HB2 := Aside0.mk (below_step HB1.out hb2); have HO1' := Aside0.mk (Kd.R_below HO1.out hb2); clear hb2 ho2) | (go_at_call 20; with_reducible refine (selvedgeref01_Same.calls (X.length + 1) A1 c1 X A2 c2 X true w2 (Kd.R_reads' HO1'.out).2.2 (Kd.R_reads' HO1'.out).2.1 (Kd.R_reads' HO2.out).2.2 (Kd.R_reads' HO2.out).2.1 hs).mono ?_; rintro e w3 ⟨rfl, hb3⟩))
      go_ret
      exact ⟨rfl, below_step HB2.out hb3.below⟩
end Go.Proofs.Ytlmnagbfmkaglaa.CC
/-! Deeds played on both caches. -/
namespace Go.Proofs.Ytlmnagbfmkaglaa.CC
open Go.RowKit Go.Proofs.Ytlmnagbfmkaglaa.PG Go.Proofs.Ytlmnagbfmkaglaa.PI Go.Proofs.YtlmnagbfmkaglaaW.PrintWords Go.Proofs.YtlmnagbfmkaglaaW.PrintLast Go.Proofs.YtlmnagbfmkaglaaW.PrintMore
attribute [local go_sem] Oper.semAt_some
def z50 : S50 := ⟨0, 0, false⟩
theorem at_50 {w : World} {A : Option Addr} {xs : List S50} (h : Kd.C k50 w A xs.length xs) (i : Nat) (h1 : i < xs.length) : ∃ ad, A = some ad ∧ w.cell? (ad.add (i * 3)) = some (.int .i64 xs[i].f0) ∧ w.cell? ⟨(ad.add (i * 3)).block, (ad.add (i * 3)).off + 1, none⟩ = some (.int .i64 xs[i].f1) ∧ w.cell? ⟨(ad.add (i * 3)).block, (ad.add (i * 3)).off + 2, none⟩ = some (.bool xs[i].f2) := by
  obtain ⟨ad, c, e, _, hK, hc0⟩ := Kd.C_get h z50 (i : Int) (by omega) (by omega)
  have hc : ∀ j u, c[j]? = some u → w.cell? (ad.add (i * 3 + j)) = some u := by
    intro j u hj
    have := hc0 j u hj
    rw [Int.toNat_natCast] at this
    exact this
  have eg : xs.getD (i : Int).toNat z50 = xs[i] := by rw [Int.toNat_natCast, List.getD_eq_getElem?_getD, List.getElem?_eq_getElem h1, Option.getD_some]
  rw [eg] at hK
  obtain rfl := k50_open hK
  exact ⟨ad, e, hc 0 _ rfl, by rw [← add_field _ _ 1 (by omega)]; exact hc 1 _ rfl, by rw [← add_field _ _ 2 (by omega)]; exact hc 2 _ rfl⟩
/-- Some deeds, one behind the other. -/
def runL (most : Int) : List S50 → List S59 → List S59
  | [], L => L
  | x :: t, L => runL most t (stepL most L x.f0 x.f1 x.f2)
theorem runL_snoc (most : Int) : ∀ (l : List S50) (x : S50) (L : List S59), runL most (l ++ [x]) L = stepL most (runL most l L) x.f0 x.f1 x.f2
  | [], _, _ => rfl
  | y :: t, x, L => by rw [List.cons_append, runL, runL, runL_snoc most t]
theorem inv_run {most : Int} : ∀ (l : List S50) (k : Nat) (L : List S59), Inv k most L → k + l.length < 1000 → Inv (k + l.length) most (runL most l L)
  | [], _, _, h, _ => h
  | x :: t, k, L, h, hk => by
    rw [List.length_cons] at hk ⊢
    have := inv_run t (k + 1) _ (inv_step x.f0 x.f1 x.f2 h (by omega)) (by omega)
    rw [show k + 1 + t.length = k + (t.length + 1) by omega] at this
    exact this
theorem inv_nil {most : Int} (h1 : 1 ≤ most) (h2 : most ≤ 96) : Inv 0 most [] := ⟨h1, h2, by simp; omega, by simp [Nd], by simp⟩
/-- The list behind some deeds. -/
def playL (most : Int) (l : List S50) : List S59 := runL most (l.take 80) []
theorem inv_play {most : Int} (l : List S50) (h1 : 1 ≤ most) (h2 : most ≤ 96) : Inv 80 most (playL most l) := by
  have hl : (l.take 80).length ≤ 80 := by rw [List.length_take]; omega
  exact (inv_run (l.take 80) 0 [] (inv_nil h1 h2) (by omega)).more (by omega)
set_option maxHeartbeats 2000000 in
set_option maxRecDepth 100000 in
theorem play_in (n : Int) (m : Nat) (hm : 1 ≤ m ∧ m ≤ 8) (A : Option Addr) (c : Nat) (l : List S50) (w : World) (hC : Kd.C k50 w A l.length l) (e1 : wrap64 ((wrap64 n).tmod 8 + 1) = (m : Int)) :
    Calls Try.prog 14 #[.int .u8 n, .slice A l.length c] w fun e w' => (∃ gc gr, e = .returned (.tuple #[.pointer (some ⟨gc, 0, none⟩), .pointer (some ⟨gr, 0, none⟩), .bool true]) ∧ ∃ Pc Pr, Two w.heap.size Pc Pr w' gc gr (m : Int) (playL (m : Int) l)) ∧ Below w.heap.size w w' := by
  have E1 := Aside0.mk e1
  have HC := Aside0.mk hC
  have HM := Aside0.mk hm
  have hnew : ∀ W, Calls Try.prog 10 #[.int .i64 (m : Int)] W fun e w' => (∃ g, e = .returned (.pointer (some ⟨g, 0, none⟩)) ∧ AC W.heap.size (fun k => W.heap.size ≤ k) w' g (m : Int) []) ∧ Below W.heap.size W w' := fun W =>
    (New_ok (m : Int) (by omega) (by omega) W).mono fun e w' ⟨⟨g, he, hc⟩, hb⟩ => ⟨⟨g, he, [], 0, hc, .inr rfl, rfl⟩, hb⟩
  have hnewR : ∀ W, Calls Try.prog 29 #[.int .i64 (m : Int)] W fun e w' => (∃ g, e = .returned (.pointer (some ⟨g, 0, none⟩)) ∧ AR W.heap.size (fun k => W.heap.size ≤ k) w' g (m : Int) []) ∧ Below W.heap.size W w' := fun W => NewR_ok (m : Int) (by omega) (by omega) W
  clear e1 hC hm
  go_enter Try.func14, Try.ntmps14
  go_upto_region 1 with (fail)
  go_wp2_with (first | (simp only [E1.out]; go_at_call 10; with_reducible refine (hnew _).mono ?_; rintro e w1 ⟨⟨gc, rfl, hc1⟩, hb1⟩; have HC1 := Aside0.mk hc1; have HB1 := Aside0.mk hb1; clear hc1 hb1) | (simp only [E1.out]; go_at_call 29; with_reducible refine (hnewR _).mono ?_; rintro e w2 ⟨⟨gr, rfl, hr2⟩, hb2⟩; have HR2 := Aside0.mk hr2; have HB2 := Aside0.mk hb2; clear hr2 hb2))
  have hT0 : Two w.heap.size (fun k => w.heap.size ≤ k ∧ k < w1.heap.size) (fun k => w1.heap.size ≤ k) w2 gc gr (m : Int) (playL (m : Int) []) := by
    obtain ⟨r1, r2, v, r3, r4⟩ := (show RS w1.heap.size _ w2 gr (m : Int) (([] : List S59).map cv) from HR2.out)
    exact ⟨(HC1.out.bound).below HB2.out, ⟨Nat.le_trans HB1.out.size r1, r2, v, r3, Kd.R_lower r4 HB1.out.size⟩, fun k h1 h2 => by have := h1.2; omega⟩
  have HT0 := Aside0.mk hT0
  have HBW := Aside0.mk (below_step HB1.out HB2.out)
  clear hT0 HC1 HR2 HB1 HB2 hnew hnewR E1
  have htk : ∀ i, i < min l.length 80 → (hlt : i < l.length) → runL (m : Int) (l.take (i + 1)) [] = stepL (m : Int) (runL (m : Int) (l.take i) []) l[i].f0 l[i].f1 l[i].f2 := fun i _ hlt => by
    rw [List.take_succ_eq_append_getElem hlt, runL_snoc]
  have HTK := Aside0.mk htk
  clear htk
  go_loopg [9] (min l.length 80) (fun kq v9 w' => ∃ i : Nat, i + kq = min l.length 80 ∧ v9 = .int .i64 (i : Int) ∧ Aside0 (∃ Pc Pr, Two w.heap.size Pc Pr w' gc gr (m : Int) (runL (m : Int) (l.take i) [])) ∧ Aside0 (Below w.heap.size w w'))
  case atStart => exact ⟨0, by omega, rfl, ⟨_, _, HT0.out⟩, HBW⟩
  case round =>
    obtain ⟨i, hi, rfl, hT, hb⟩ := hrel
    clear HT0 HBW
    cases gk with
    | succ k1 =>
      have hlt : i < l.length := by omega
      have hi80 : i < 80 := by omega
      have d1 : decide ((i : Int) < (l.length : Int)) = true := by simp; omega
      have d2 : decide ((i : Int) < 80) = true := by simp; omega
      have p1 : (0 ≤ (i : Int)) = True := eq_true (by omega)
      have p2 : ((i : Int) < (l.length : Int)) = True := eq_true (by omega)
      obtain ⟨ad, ea, x0, x1, x2⟩ := at_50 (Kd.C_below HC.out hb.out) i hlt
      cases ea
      have hstep := HTK.out i (by omega) hlt
      obtain ⟨x, hx⟩ : ∃ x, l[i] = x := ⟨_, rfl⟩
      rw [hx] at x0 x1 x2 hstep
      have HST := Aside0.mk hstep
      have hdo : Calls Try.prog 24 #[.pointer (some ⟨gc, 0, none⟩), .pointer (some ⟨gr, 0, none⟩), .agg #[.int .i64 x.f0, .int .i64 x.f1, .bool x.f2]] wr fun e w' => e = .returned (.bool true) ∧ Aside0 ((∃ Pc Pr, Two w.heap.size Pc Pr w' gc gr (m : Int) (runL (m : Int) (l.take (i + 1)) [])) ∧ Below w.heap.size w w') := by
        obtain ⟨Pc, Pr, hTT⟩ := hT.out
        have hinv : Inv (0 + (l.take i).length) (m : Int) (runL (m : Int) (l.take i) []) := inv_run (l.take i) 0 [] (inv_nil (by have := HM.out; omega) (by have := HM.out; omega)) (by rw [List.length_take]; omega)
        refine (do_calls x.f0 Pc Pr gc gr (m : Int) _ x.f1 x.f2 w wr hb.out hTT hinv).mono ?_
        rintro e w' ⟨rfl, ⟨Pc', Pr', h1, -, -⟩, h2, -⟩
        exact ⟨rfl, ⟨⟨Pc', Pr', by rw [HST.out]; exact h1⟩, h2⟩⟩
      have ew : Aside0 (wrap64 ((i : Int) + 1) = ((i + 1 : Nat) : Int)) := ⟨by unfold wrap64; omega⟩
      clear hx hstep
      go_wp2_with (go_at_call 24; with_reducible refine hdo.mono ?_; rintro e w3 ⟨rfl, hd⟩)
      go_roundg k1
      case rel => exact ⟨i + 1, by omega, by first | rfl | rw [ew.out], ⟨hd.out.1⟩, ⟨hd.out.2⟩⟩
      all_goals omega
    | zero =>
      have hfin : runL (m : Int) (l.take i) [] = playL (m : Int) l := by
        unfold playL
        congr 1
        obtain rfl : i = min l.length 80 := by omega
        by_cases h : l.length ≤ 80
        · rw [Nat.min_eq_left h, List.take_length, List.take_of_length_le h]
        · rw [Nat.min_eq_right (by omega)]
      have HF := Aside0.mk hfin
      clear hfin
      by_cases h80 : i < l.length
      · have d1 : decide ((i : Int) < (l.length : Int)) = true := by simp; omega
        have d2 : decide ((i : Int) < 80) = false := by simp; omega
        go_wp2
        go_ret3
        obtain ⟨Pc, Pr, h⟩ := hT.out
        exact ⟨⟨gc, gr, rfl, Pc, Pr, by rw [← HF.out]; exact h⟩, hb.out⟩
      · have d1 : decide ((i : Int) < (l.length : Int)) = false := by simp; omega
        go_wp2
        go_ret3
        obtain ⟨Pc, Pr, h⟩ := hT.out
        exact ⟨⟨gc, gr, rfl, Pc, Pr, by rw [← HF.out]; exact h⟩, hb.out⟩
theorem play_calls (n : Int) (hn : 0 ≤ n ∧ n < 256) (A : Option Addr) (c : Nat) (l : List S50) (w : World) (hC : Kd.C k50 w A l.length l) :
    Calls Try.prog 14 #[.int .u8 n, .slice A l.length c] w fun e w' => (∃ gc gr, e = .returned (.tuple #[.pointer (some ⟨gc, 0, none⟩), .pointer (some ⟨gr, 0, none⟩), .bool true]) ∧ ∃ Pc Pr, Two w.heap.size Pc Pr w' gc gr (n % 8 + 1) (playL (n % 8 + 1) l)) ∧ Below w.heap.size w w' := by
  obtain ⟨m, hm⟩ : ∃ m : Nat, n % 8 + 1 = (m : Int) := ⟨(n % 8 + 1).toNat, by omega⟩
  rw [hm]
  exact play_in n m (by omega) A c l w hC (by rw [show wrap64 n = n by unfold wrap64; omega, Int.tmod_eq_emod_of_nonneg hn.1, hm]; unfold wrap64; omega)
end Go.Proofs.Ytlmnagbfmkaglaa.CC
