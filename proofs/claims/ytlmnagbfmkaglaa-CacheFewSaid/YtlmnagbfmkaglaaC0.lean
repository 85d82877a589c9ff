import Derived.Test.YtlmnagbfmkaglaaPGx1
import Derived.WalkMore
/-! Contracts of the package cache: find. -/
namespace Go.Proofs.Ytlmnagbfmkaglaa.CC
open Go.RowKit Go.Proofs.Ytlmnagbfmkaglaa.PG Go.Proofs.YtlmnagbfmkaglaaW.PrintWords Go.Proofs.YtlmnagbfmkaglaaW.PrintLast Go.Proofs.YtlmnagbfmkaglaaW.PrintMore
attribute [local go_sem] Oper.semAt_some
def fr (x : S59) : Value := .agg #[.int .i64 x.f0, .int .i64 x.f1, .bool x.f2, .bool x.f3]
theorem is_calls (x : S59) (q : Nat) (b : Int) (w : World) (hq : w.cell? ⟨q, 0, none⟩ = some (.int .i64 b)) :
    Calls Try.prog 41 #[.agg #[.int .i64 x.f0, .int .i64 x.f1, .bool x.f2, .bool x.f3], .pointer (some ⟨q, 0, none⟩)] w fun e w' => e = .returned (.bool (x.f0 == b)) ∧ Below w.heap.size w w' := by
  have HB := Aside0.mk (Below.refl w.heap.size w)
  have HQ := Aside0.mk hq
  clear hq
  go_enter Try.func41, Try.ntmps41
  go_upto_region 1 with (first | ((with_reducible refine gate_dst (N := 2) rfl ?_); refine box_event ?hg (N := 2) ?hd (cs := #[.int .i64 x.f0, .int .i64 x.f1, .bool x.f2, .bool x.f3]) (t := 59) ?hr ?_; (case hd => rfl); (case hg => rfl); (case hr => first | (go_simp; done) | (go_simp; rfl)); intro gb hg w5 hbox hb; have HBX := Aside0.mk hb; have HX := Aside0.mk hbox; clear hb hbox hg))
  have q0 : w5.cell? ⟨gb, 0, none⟩ = some (.int .i64 x.f0) := (blk_cell HX.out 0).trans rfl
  have q1 : w5.cell? ⟨q, 0, none⟩ = some (.int .i64 b) := pw_cell_below HBX.out HQ.out
  go_wp2
  go_ret
  exact ⟨rfl, HBX.out⟩
/-- Where a block is in a row; -1: it is not. -/
def ix (row : List S59) (b : Int) : Int := if row.findIdx (fun x => x.f0 == b) < row.length then (row.findIdx (fun x => x.f0 == b) : Int) else -1
theorem ix_hit {row : List S59} {b : Int} {i : Nat} (hi : i < row.length) (h : (row[i].f0 == b) = true) (hb : ∀ x ∈ row.take i, (x.f0 == b) = false) : ix row b = (i : Int) := by
  have e : row.findIdx (fun x => x.f0 == b) = i := (List.findIdx_eq hi).2 ⟨h, fun j hj => by
    have := hb (row[j]) (by rw [List.mem_take_iff_getElem]; exact ⟨j, by omega, rfl⟩)
    exact this⟩
  unfold ix
  rw [e, if_pos hi]
theorem ix_miss {row : List S59} {b : Int} (hb : ∀ x ∈ row, (x.f0 == b) = false) : ix row b = -1 := by
  have e : row.findIdx (fun x => x.f0 == b) = row.length := List.findIdx_eq_length.2 hb
  unfold ix
  rw [e, if_neg (by omega)]
set_option maxRecDepth 100000 in
set_option maxHeartbeats 1000000 in
theorem idx_calls (A : Option Addr) (c : Nat) (row : List S59) (q : Nat) (b : Int) (w : World) (hC : Kd.C k59 w A row.length row) (hq : w.cell? ⟨q, 0, none⟩ = some (.int .i64 b)) (hn : row.length < 140737488355328) :
    Calls Try.prog 40 #[.slice A row.length c, .func (.func 41) #[] #[.pointer (some ⟨q, 0, none⟩)]] w fun e w' => e = .returned (.int .i64 (ix row b)) ∧ Below w.heap.size w w' := by
  have HC := Aside0.mk hC
  have HQ := Aside0.mk hq
  clear hC hq
  go_enter Try.func40, Try.ntmps40
  go_wp2
  go_loopg [8] row.length (fun kq v8 w' => ∃ i : Nat, i + kq = row.length ∧ v8 = .int .i64 (i : Int) ∧ Aside0 (∀ x ∈ row.take i, (x.f0 == b) = false) ∧ Aside0 (Below w.heap.size w w'))
  case atStart => exact ⟨0, by simp, rfl, ⟨by simp⟩, ⟨Below.refl _ _⟩⟩
  case round =>
    obtain ⟨i, hi, rfl, hA, HB⟩ := hrel
    cases gk with
    | zero =>
      obtain rfl : i = row.length := by omega
      have hA' := hA.out
      rw [List.take_length] at hA'
      clear hA
      go_wp2
      go_ret
      exact ⟨by rw [ix_miss hA']; rfl, HB.out⟩
    | succ k1 =>
      have hlt : i < row.length := by omega
      have c0 : decide ((i : Int) < (row.length : Int)) = true := by simp; omega
      have p123 : 0 ≤ (i : Int) := by omega
      have q123 : (i : Int) < (row.length : Int) := by omega
      obtain ⟨ad, e, hx0, hx1, hx2, hx3⟩ := at_T59 (Kd.C_below HC.out HB.out) (i : Int) p123 q123
      cases e
      have hrd : rd_T59 row (i : Int) = row[i] := by simp [rd_T59, List.getD_eq_getElem?_getD, hlt]
      rw [hrd] at hx0 hx1 hx2 hx3
      obtain ⟨x, hx⟩ : ∃ x, row[i] = x := ⟨_, rfl⟩
      rw [hx] at hx0 hx1 hx2 hx3
      rw [Int.toNat_natCast] at hx0 hx1 hx2 hx3
      have hw : wrap64 ((i : Int) + 1) = ((i + 1 : Nat) : Int) := by unfold wrap64; omega
      replace p123 := eq_true p123
      replace q123 := eq_true q123
      have hq' := pw_cell_below HB.out HQ.out
      cases hb : (x.f0 == b) with
      | true =>
        go_wp2_with (go_at_call 41; with_reducible refine (is_calls x q b _ hq').mono ?_; rw [hb]; rintro e w' ⟨rfl, hb2⟩)
        go_ret
        exact ⟨by rw [ix_hit hlt (by rw [hx]; exact hb) hA.out]; rfl, below_step HB.out hb2⟩
      | false =>
        go_wp2_with (go_at_call 41; with_reducible refine (is_calls x q b _ hq').mono ?_; rw [hb]; rintro e w' ⟨rfl, hb2⟩)
        go_roundg k1
        case rel => exact ⟨i + 1, by omega, by rw [Int.natCast_add]; rfl, ⟨fun y hy => by
          rw [List.take_succ_eq_append_getElem hlt, List.mem_append, List.mem_singleton, hx] at hy
          rcases hy with hy | rfl
          · exact hA.out y hy
          · exact hb⟩, ⟨below_step HB.out hb2⟩⟩
        all_goals omega
/-- What find answers. -/
def fp : Value → Int → Value
  | .slice (some a) _ _, i => if i < 0 then .pointer none else .pointer (some (a.add (i.toNat * 4)))
  | _, _ => .pointer none
theorem ix_range (row : List S59) (b : Int) : ix row b = -1 ∨ 0 ≤ ix row b ∧ ix row b < row.length := by
  unfold ix
  split
  · right; omega
  · left; rfl
theorem find_nil (b : Int) (w : World) : Calls Try.prog 25 #[.pointer none, .int .i64 b] w fun e w' => e = .returned (.pointer none) ∧ Below w.heap.size w w' := by
  have HB := Aside0.mk (Below.refl w.heap.size w)
  go_enter Try.func25, Try.ntmps25
  go_wp2
  go_ret
  exact ⟨rfl, below_alloc HB.out _⟩
set_option maxRecDepth 100000 in
set_option maxHeartbeats 1000000 in
theorem find_calls (g : Nat) (most hand : Int) (A : Option Addr) (c : Nat) (row : List S59) (b : Int) (w : World) (hg : w.heap[g]? = some (.cells #[.int .i64 most, .slice A row.length c, .int .i64 hand] 55 (0, 0))) (hC : Kd.C k59 w A row.length row) (hn : row.length < 140737488355328) :
    Calls Try.prog 25 #[.pointer (some ⟨g, 0, none⟩), .int .i64 b] w fun e w' => e = .returned (fp (.slice A row.length c) (ix row b)) ∧ Below w.heap.size w w' := by
  have HG := Aside0.mk hg
  have HC := Aside0.mk hC
  clear hg hC
  have hr := ix_range row b
  go_enter Try.func25, Try.ntmps25
  go_upto_region 3 with (first | ((with_reducible refine gate_dst (N := 3) rfl ?_); refine box_event ?hg (N := 3) ?hd (cs := #[.int .i64 b]) (t := 3) ?hr ?_; (case hd => rfl); (case hg => rfl); (case hr => first | (go_simp; done) | (go_simp; rfl)); intro gb hg w5 hbox hb; have HBX := Aside0.mk hb; have HX := Aside0.mk hbox; clear hb hbox hg))
  have c1 : w5.cell? ⟨g, 1, none⟩ = some (.slice A row.length c) := pw_cell_below HBX.out ((blk_cell HG.out 1).trans rfl)
  have cq : w5.cell? ⟨gb, 0, none⟩ = some (.int .i64 b) := (blk_cell HX.out 0).trans rfl
  rcases hr with hm | ⟨h0, h1⟩
  · go_wp2_with (go_at_call 40; with_reducible refine (idx_calls A c row gb b _ (Kd.C_below HC.out HBX.out) cq hn).mono ?_; rw [hm]; rintro e w6 ⟨rfl, hb6⟩)
    go_ret
    exact ⟨by rw [hm]; cases A <;> rfl, below_step HBX.out hb6⟩
  · obtain ⟨n, hnn⟩ := Int.eq_ofNat_of_zero_le h0
    rw [hnn] at h1
    obtain ⟨ad, e, -⟩ := at_T59 HC.out (n : Int) (by omega) h1
    cases e
    have p123 : (0 ≤ (n : Int)) = True := eq_true (by omega)
    have q123 : ((n : Int) < (row.length : Int)) = True := eq_true h1
    have d0 : decide ((n : Int) < 0) = false := by simp
    go_wp2_with (go_at_call 40; with_reducible refine (idx_calls (some ad) c row gb b _ (Kd.C_below HC.out HBX.out) cq hn).mono ?_; rw [hnn]; rintro e w6 ⟨rfl, hb6⟩; have c6 := pw_cell_below hb6 c1)
    go_ret
    exact ⟨by rw [hnn]; simp [fp], below_step HBX.out hb6⟩
end Go.Proofs.Ytlmnagbfmkaglaa.CC
