import Derived.Test.YthembklejaabiaaExt2
namespace Go.Proofs.Ythembklejaabiaa.PG
open Go.RowKit Go.Proofs.YthembklejaabiaaW.PrintWords Go.Proofs.YthembklejaabiaaW.PrintLast Go.Proofs.YthembklejaabiaaW.PrintMore
open Go.Shelf Go.Proofs.Ythembklejaabiaa.PL

attribute [local go_sem] Oper.semAt_some




set_option maxRecDepth 100000 in
set_option maxHeartbeats 1000000 in
theorem collect_in (F : Fence) (n : Nat) (h33 : F.fn 36) (h36 : F.fn 48) (h34 : F.fn 44) (h35 : F.fn 45) (hro : F.round = none) (hn : 4 ≤ n) (Bs : Nat) (w0 : World) (A : Option Addr) (c : Nat) (zs : List Int) (hC : Kd.C (Kd.int .u8) w0 A zs.length zs) (hf : Fine zs) (w : World) (hw0 : Below w0.heap.size w0 w)
    (hBs : Bs < w.heap.size) (hcell : w.cell? ⟨Bs, 0, none⟩ = some (.slice A zs.length c)) :
    CallsIn F n Try.prog 36 #[.func (.func 44) #[] #[.pointer (some ⟨Bs, 0, none⟩)]] w fun e W' => ∃ v, e = .returned v ∧ W'.ownsRow w.heap.size 3 1 v (bitsOf zs).length ((bitsOf zs).map (Value.int .i64)) ∧ Below w.heap.size w W' := by
  have h1 : 1 ≤ n := by omega
  refine callsIn_of_wp Try.func36 rfl h33 ?_ hro
  simp only [Try.ntmps36, List.size_toArray, List.length_cons, List.length_nil, Nat.reduceAdd, Nat.reduceSub, Array.replicate_succ, Array.replicate_zero, List.push_toArray, List.append_toArray, List.nil_append, List.cons_append]
  gi_wp2_with (gi_at_call 48; refine (appendSeq_in F (n - 1) h36 h34 h35 hro (by omega) Bs w0 A c zs hC hf _ hw0 hBs hcell).mono ?_; rintro e w' ⟨v, rfl, hr, hb⟩)
  go_ret
  exact ⟨v, rfl, hr, hb⟩

set_option maxRecDepth 100000 in
set_option maxHeartbeats 1000000 in
theorem list_in (F : Fence) (n : Nat) (h23 : F.fn 23) (h31 : F.fn 31) (h33 : F.fn 36) (h36 : F.fn 48) (h34 : F.fn 44) (h35 : F.fn 45) (hro : F.round = none) (hn : 5 ≤ n) (w : World) (A : Option Addr) (c : Nat) (zs : List Int) (hC : Kd.C (Kd.int .u8) w A zs.length zs) (hf : Fine zs) :
    CallsIn F n Try.prog 23 #[.slice A zs.length c] w fun e W' => ∃ v, e = .returned v ∧ W'.ownsRow w.heap.size 3 1 v (bitsOf zs).length ((bitsOf zs).map (Value.int .i64)) ∧ Below w.heap.size w W' := by
  have bN := Boxed.new w 34 (.slice A zs.length c)
  have hB0 : Below w.heap.size w (w.alloc (.cells #[.slice A zs.length c] 34)) := (Below.refl _ w).alloc (Nat.le_refl _) _
  have hcl := bN.cell
  clear bN
  have h1 : 1 ≤ n := by omega
  refine callsIn_of_wp Try.func23 rfl h23 ?_ hro
  simp only [Try.ntmps23, List.size_toArray, List.length_cons, List.length_nil, Nat.reduceAdd, Nat.reduceSub, Array.replicate_succ, Array.replicate_zero, List.push_toArray, List.append_toArray, List.nil_append, List.cons_append]
  gi_wp2_with (first | (gi_at_call 31; refine (set_in F _ h31 hro _ _ _ _).mono ?_; rintro e w' ⟨rfl, rfl⟩) | (gi_at_call 36; refine (collect_in F (n - 1) h33 h36 h34 h35 hro (by omega) w.heap.size w A c zs hC hf _ hB0 (by simp) hcl).mono ?_; rintro e w' ⟨v, rfl, hr, hb⟩))
  go_ret
  exact ⟨v, rfl, own_weaken hr (by simp), hB0.trans (hb.mono (by simp))⟩

def bitset_List.f (l0 : List Int) : Option (List Int) := if Fine l0 then some (bitsOf l0) else none
theorem bitset_List.calls (A0 : Option Addr) (c0 : Nat) (l0 : List Int) (r : List Int) (w : World) (hr0 : Kd.C (Kd.int .u8) w A0 l0.length l0) (hc0 : l0.length ≤ c0) (h : bitset_List.f l0 = some r) :
    Calls Try.prog 23 #[.slice A0 l0.length c0] w fun e w' => ∃ v0_ : Value, e = .returned (v0_) ∧ Kd.R (Kd.int .i64) 3 w' w.heap.size (fun _ => True) v0_ r ∧ Below w.heap.size w w' := by
  unfold bitset_List.f at h
  by_cases hf : Fine l0
  · rw [if_pos hf] at h
    obtain rfl := Option.some.inj h
    refine ((callsIn_wide (n := 5)).1 (list_in _ 5 trivial trivial trivial trivial trivial trivial rfl (by omega) w A0 c0 l0 hr0 hf)).mono ?_
    rintro e w' ⟨v, rfl, hr, hb⟩
    exact ⟨v, rfl, Kd.R_of_own hr (fun _ _ => trivial), hb⟩
  · rw [if_neg hf] at h
    exact absurd h (by simp)
end Go.Proofs.Ythembklejaabiaa.PG
