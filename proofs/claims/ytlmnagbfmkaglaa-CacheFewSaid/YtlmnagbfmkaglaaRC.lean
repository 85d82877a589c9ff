import Derived.Test.YtlmnagbfmkaglaaC8
import Derived.Lib.SliceRun
/-! Contracts: DeleteFunc, Drop of the package cache. -/
namespace Go.Proofs.Ytlmnagbfmkaglaa.CC
open Go.RowKit Go.Proofs.Ytlmnagbfmkaglaa.PG Go.Proofs.YtlmnagbfmkaglaaW.PrintWords Go.Proofs.YtlmnagbfmkaglaaW.PrintLast Go.Proofs.YtlmnagbfmkaglaaW.PrintMore
attribute [local go_sem] Oper.semAt_some
theorem isD_calls (x : S59) (q : Nat) (b : Int) (w : World) (hq : w.cell? ⟨q, 0, none⟩ = some (.int .i64 b)) :
    Calls Try.prog 31 #[.agg #[.int .i64 x.f0, .int .i64 x.f1, .bool x.f2, .bool x.f3], .pointer (some ⟨q, 0, none⟩)] w fun e w' => e = .returned (.bool (x.f0 == b)) ∧ Below w.heap.size w w' := by
  have HB := Aside0.mk (Below.refl w.heap.size w)
  have HQ := Aside0.mk hq
  clear hq
  go_enter Try.func31, Try.ntmps31
  go_upto_region 1 with (first | ((with_reducible refine gate_dst (N := 2) rfl ?_); refine box_event ?hg (N := 2) ?hd (cs := #[.int .i64 x.f0, .int .i64 x.f1, .bool x.f2, .bool x.f3]) (t := 59) ?hr ?_; (case hd => rfl); (case hg => rfl); (case hr => first | (go_simp; done) | (go_simp; rfl)); intro gb hg w5 hbox hb; have HBX := Aside0.mk hb; have HX := Aside0.mk hbox; clear hb hbox hg))
  have q0 : w5.cell? ⟨gb, 0, none⟩ = some (.int .i64 x.f0) := (blk_cell HX.out 0).trans rfl
  have q1 : w5.cell? ⟨q, 0, none⟩ = some (.int .i64 b) := pw_cell_below HBX.out HQ.out
  go_wp2
  go_ret
  exact ⟨rfl, HBX.out⟩
set_option maxRecDepth 100000 in
set_option maxHeartbeats 1000000 in
theorem idxD_calls (A : Option Addr) (c : Nat) (row : List S59) (q : Nat) (b : Int) (w : World) (hC : Kd.C k59 w A row.length row) (hq : w.cell? ⟨q, 0, none⟩ = some (.int .i64 b)) (hn : row.length < 140737488355328) :
    Calls Try.prog 40 #[.slice A row.length c, .func (.func 31) #[] #[.pointer (some ⟨q, 0, none⟩)]] w fun e w' => e = .returned (.int .i64 (ix row b)) ∧ Below w.heap.size w w' := by
  have HC := Aside0.mk hC
  have HQ := Aside0.mk hq
  clear hC hq
  go_enter Try.func40, Try.ntmps40
  go_wp2
  go_loopg [8] row.length (fun kq v8 w' => ∃ i : Nat, i + kq = row.length ∧ v8 = .int .i64 (i : Int) ∧ Aside0 (∀ x ∈ row.take i, (x.f0 == b) = false) ∧ Aside0 (Below w.heap.size w w'))
  case atStart => exact ⟨0, by simp, rfl, ⟨by simp⟩, ⟨Below.refl _ _⟩⟩
  case round =>
    obtain ⟨i, hi, rfl, hA, HB⟩ := hrel
    cases gk with
    | zero =>
      obtain rfl : i = row.length := by omega
      have hA' := hA.out
      rw [List.take_length] at hA'
      clear hA
      go_wp2
      go_ret
      exact ⟨by rw [ix_miss hA']; rfl, HB.out⟩
    | succ k1 =>
      have hlt : i < row.length := by omega
      have c0 : decide ((i : Int) < (row.length : Int)) = true := by simp; omega
      have p123 : 0 ≤ (i : Int) := by omega
      have q123 : (i : Int) < (row.length : Int) := by omega
      obtain ⟨ad, e, hx0, hx1, hx2, hx3⟩ := at_T59 (Kd.C_below HC.out HB.out) (i : Int) p123 q123
      cases e
      have hrd : rd_T59 row (i : Int) = row[i] := by simp [rd_T59, List.getD_eq_getElem?_getD, hlt]
      rw [hrd] at hx0 hx1 hx2 hx3
      obtain ⟨x, hx⟩ : ∃ x, row[i] = x := ⟨_, rfl⟩
      rw [hx] at hx0 hx1 hx2 hx3
      rw [Int.toNat_natCast] at hx0 hx1 hx2 hx3
      have hw : wrap64 ((i : Int) + 1) = ((i + 1 : Nat) : Int) := by unfold wrap64; omega
      replace p123 := eq_true p123
      replace q123 := eq_true q123
      have hq' := pw_cell_below HB.out HQ.out
      cases hb : (x.f0 == b) with
      | true =>
        go_wp2_with (go_at_call 31; with_reducible refine (isD_calls x q b _ hq').mono ?_; rw [hb]; rintro e w' ⟨rfl, hb2⟩)
        go_ret
        exact ⟨by rw [ix_hit hlt (by rw [hx]; exact hb) hA.out]; rfl, below_step HB.out hb2⟩
      | false =>
        go_wp2_with (go_at_call 31; with_reducible refine (isD_calls x q b _ hq').mono ?_; rw [hb]; rintro e w' ⟨rfl, hb2⟩)
        go_roundg k1
        case rel => exact ⟨i + 1, by omega, by rw [Int.natCast_add]; rfl, ⟨fun y hy => by
          rw [List.take_succ_eq_append_getElem hlt, List.mem_append, List.mem_singleton, hx] at hy
          rcases hy with hy | rfl
          · exact hA.out y hy
          · exact hb⟩, ⟨below_step HB.out hb2⟩⟩
        all_goals omega
/-! clear -/
def z4 : List Value := [.int .i64 0, .int .i64 0, .bool false, .bool false]
def zeros : Nat → List Value
  | 0 => []
  | n + 1 => zeros n ++ z4
theorem zeros_len : ∀ n, (zeros n).length = n * 4
  | 0 => rfl
  | n + 1 => by rw [zeros, List.length_append, zeros_len n]; simp [z4]; omega
theorem zeros_one : ∀ n, ∀ v ∈ zeros n, v.oneCell' = true
  | 0, v, h => by simp [zeros] at h
  | n + 1, v, h => by
    rw [zeros, List.mem_append] at h
    rcases h with h | h
    · exact zeros_one n v h
    · simp only [z4, List.mem_cons, List.not_mem_nil, or_false] at h
      rcases h with rfl | rfl | rfl | rfl <;> rfl
theorem zeros_cells : ∀ n, (Builtin.zeroCells #[.int .i64 0, .int .i64 0, .bool false, .bool false] n).toList = zeros n
  | 0 => by simp [Builtin.zeroCells, zeros]
  | n + 1 => by
    rw [zeros, ← zeros_cells n]
    simp only [Builtin.zeroCells, Array.toList_map, Array.toList_range]
    rw [show (n + 1) * (#[.int .i64 0, .int .i64 0, .bool false, .bool false] : Array Value).size = n * (#[.int .i64 0, .int .i64 0, .bool false, .bool false] : Array Value).size + 4 by simp; omega, List.range_add, List.map_append]
    congr 1
    simp [z4, List.range_succ, Nat.mul_add_mod_self_right, Nat.add_mod]
theorem setCells_app (b : Nat) : ∀ (xs ys : List Value) (o : Nat) (w : World), w.setCells b o (xs ++ ys) = (w.setCells b o xs).setCells b (o + xs.length) ys
  | [], ys, o, w => by simp [World.setCells]
  | x :: r, ys, o, w => by
    rw [List.cons_append, World.setCells, setCells_app b r ys, World.setCells, List.length_cons]
    congr 1
    omega
theorem clear_rows {B : Nat} {P : Nat → Prop} {w : World} {gr cap n : Nat} {row : List S59} (hR : Kd.R k59 59 w B P (.slice (some ⟨gr, 0, none⟩) n cap) row) (i : Nat) : ∀ m, i + m ≤ row.length →
    ∃ row2, row2.length = row.length ∧ row2.take i = row.take i ∧ Kd.R k59 59 (w.setCells gr (i * 4) (zeros m)) B P (.slice (some ⟨gr, 0, none⟩) n cap) row2 ∧ w.grownBy (w.setCells gr (i * 4) (zeros m)) (some gr)
  | 0, _ => ⟨row, rfl, rfl, hR, ⟨rfl, rfl, rfl, Nat.le_refl _, fun _ _ _ => rfl⟩⟩
  | m + 1, h => by
    obtain ⟨row2, h1, h2, h3, h4⟩ := clear_rows hR i m (by omega)
    obtain ⟨r1, r2⟩ := row_put4 h3 (i + m) (by omega) z59
    refine ⟨row2.set (i + m) z59, by rw [List.length_set, h1], by rw [List.take_set_of_le (by omega), h2], ?_, ?_⟩
    · rw [zeros, setCells_app, zeros_len, show i * 4 + m * 4 = (i + m) * 4 by omega]
      exact r1
    · rw [zeros, setCells_app, zeros_len, show i * 4 + m * 4 = (i + m) * 4 by omega]
      exact ⟨r2.os.trans h4.os, r2.tape.trans h4.tape, r2.output.trans h4.output, Nat.le_trans h4.size r2.size, fun k hk hne => (r2.block k (Nat.lt_of_lt_of_le hk h4.size) hne).trans (h4.block k hk hne)⟩
theorem zero59 (w : World) : (zeroValue 59).run Try.prog w = .ok (.agg #[.int .i64 0, .int .i64 0, .bool false, .bool false]) w := by kernel_rfl
theorem run_clear59 (w : World) (ty : TypeId) (b o n c : Nat) (hn : 0 < n) (hc : ∀ j, j < n * 4 → (w.cell? ⟨b, o + j, none⟩).isSome = true) (hf : ∀ j, j < n * 4 → w.frozen? ⟨b, o + j, none⟩ = false) :
    (Builtin.clear_ #[53] ty #[.slice (some ⟨b, o, none⟩) n c]).run Try.prog w = .ok (.tuple #[]) (w.setCells b o (zeros n)) := by
  have hst := run_storeCells_cells (P := Try.prog) b o (zeros n) 0 w (by rw [zeros_len]; simpa using hc) (by rw [zeros_len]; simpa using hf) (zeros_one n)
  simp only [Nat.add_zero] at hst
  obtain ⟨m, rfl⟩ : ∃ m, n = m + 1 := ⟨n - 1, by omega⟩
  simp [Builtin.clear_, run_underlying Try.underlying53, zero59, zeros_cells, hst, Value.cells]
theorem run_clearR {B : Nat} {P : Nat → Prop} {w : World} {gr cap k : Nat} {row : List S59} (hR : Kd.R k59 59 w B P (.slice (some ⟨gr, 0, none⟩) k cap) row) (i n c : Nat) (hn : 0 < n) (hl : i + n = row.length) (ty : TypeId) :
    (Builtin.clear_ #[53] ty #[.slice (some ⟨gr, i * 4, none⟩) n c]).run Try.prog w = .ok (.tuple #[]) (w.setCells gr (i * 4) (zeros n)) := by
  refine run_clear59 w ty gr (i * 4) n c hn (fun j hj => ?_) (fun j hj => ?_)
  · obtain ⟨q0, q1, q2, q3⟩ := (row_cells hR (i + j / 4) (by omega)).1
    rcases (show j % 4 = 0 ∨ j % 4 = 1 ∨ j % 4 = 2 ∨ j % 4 = 3 by omega) with h | h | h | h
    · rw [show i * 4 + j = (i + j / 4) * 4 by omega, q0]; rfl
    · rw [show i * 4 + j = (i + j / 4) * 4 + 1 by omega, q1]; rfl
    · rw [show i * 4 + j = (i + j / 4) * 4 + 2 by omega, q2]; rfl
    · rw [show i * 4 + j = (i + j / 4) * 4 + 3 by omega, q3]; rfl
  · have := (row_cells hR i (by omega)).2 j
    exact this
end Go.Proofs.Ytlmnagbfmkaglaa.CC
/-! Contracts: DeleteFunc, Drop of the package cache. -/
namespace Go.Proofs.Ytlmnagbfmkaglaa.CC
open Go.RowKit Go.Proofs.Ytlmnagbfmkaglaa.PG Go.Proofs.YtlmnagbfmkaglaaW.PrintWords Go.Proofs.YtlmnagbfmkaglaaW.PrintLast Go.Proofs.YtlmnagbfmkaglaaW.PrintMore
attribute [local go_sem] Oper.semAt_some
def keepB (b : Int) (x : S59) : Bool := !(x.f0 == b)
set_option maxRecDepth 100000 in
set_option maxHeartbeats 4000000 in
theorem DelF_calls (gr cap q : Nat) (b : Int) (row : List S59) (P : Nat → Prop) (w0 w : World) (hB : Below w0.heap.size w0 w) (hR : Kd.R k59 59 w w0.heap.size P (.slice (some ⟨gr, 0, none⟩) row.length cap) row) (hq : w.cell? ⟨q, 0, none⟩ = some (.int .i64 b)) (hqg : q ≠ gr) (hn : row.length < 1000) (n : Nat) (hix : ix row b = (n : Int)) :
    Calls Try.prog 30 #[.slice (some ⟨gr, 0, none⟩) row.length cap, .func (.func 31) #[] #[.pointer (some ⟨q, 0, none⟩)]] w fun e w' => e = .returned (.slice (some ⟨gr, 0, none⟩) (row.filter (keepB b)).length cap) ∧ Kd.R k59 59 w' w0.heap.size P (.slice (some ⟨gr, 0, none⟩) (row.filter (keepB b)).length cap) (row.filter (keepB b)) ∧ Below w0.heap.size w0 w' ∧ Kept w w' (fun k => k = gr) := by
  have hC := (Kd.R_reads' hR).2.2
  have hcap := (Kd.R_reads' hR).2.1
  have hf := idxD_calls (some ⟨gr, 0, none⟩) cap row q b w hC hq (by omega)
  rw [hix] at hf
  have hgr0 : w0.heap.size ≤ gr := Kd.R_base hR gr (by simp [Value.ownBlock])
  have hlt : n < row.length := by rcases ix_range row b with h | h <;> omega
  have hfst : (row[n].f0 == b) = true ∧ ∀ x ∈ row.take n, (x.f0 == b) = false := by
    have h1 := hix
    unfold ix at h1
    split at h1
    · next hl =>
      have e : row.findIdx (fun x => x.f0 == b) = n := by omega
      have h2 := (List.findIdx_eq hlt).1 e
      refine ⟨h2.1, fun x hx => ?_⟩
      obtain ⟨j, hj, rfl⟩ := List.mem_iff_getElem.1 hx
      rw [List.length_take] at hj
      rw [List.getElem_take]
      exact h2.2 j (by omega)
    · omega
  have htake : (row.take (n + 1)).filter (keepB b) = row.take n := by
    rw [List.take_succ_eq_append_getElem hlt, List.filter_append, List.filter_eq_self.2 (fun x hx => by simp [keepB, hfst.2 x hx])]
    simp [keepB, hfst.1]
  have HB := Aside0.mk hB
  have HR := Aside0.mk hR
  have HQ := Aside0.mk hq
  have HN := Aside0.mk hn
  have HTK := Aside0.mk htake
  have d1 : ((n : Int) == -1) = false := by simp
  have ew : wrap64 ((n : Int) + 1) = ((n + 1 : Nat) : Int) := by unfold wrap64; omega
  clear hB hR hC hq hfst htake hn hix
  go_enter Try.func30, Try.ntmps30
  go_wp2_with (go_at_call 40; with_reducible refine hf.mono ?_; rintro e w1 ⟨rfl, hb1⟩; have HB1 := Aside0.mk hb1; clear hb1)
  go_loopg [5, 6] (row.length - (n + 1)) (fun kq v5 v6 w' => ∃ (i j : Nat) (row2 : List S59), j + kq = row.length ∧ i < j ∧ v5 = .int .i64 (i : Int) ∧ v6 = .int .i64 (j : Int) ∧ Aside0 (row2.length = row.length ∧ row2.take i = (row.take j).filter (keepB b) ∧ row2.drop j = row.drop j ∧ i = ((row.take j).filter (keepB b)).length) ∧ Aside0 (Kd.R k59 59 w' w0.heap.size P (.slice (some ⟨gr, 0, none⟩) row.length cap) row2) ∧ Aside0 (Below w0.heap.size w0 w') ∧ Aside0 (Kept w w' (fun k => k = gr)))
  case atStart => exact ⟨n, n + 1, row, by omega, Nat.lt_succ_self n, rfl, by first | rfl | rw [ew], ⟨rfl, HTK.out.symm, rfl, by rw [HTK.out, List.length_take, Nat.min_eq_left (by omega)]⟩, ⟨Kd.R_below HR.out HB1.out⟩, ⟨below_then HB.out HB.out.size HB1.out⟩, ⟨kept_below _ HB1.out⟩⟩
  case round =>
    obtain ⟨i, j, row2, hj, hij, rfl, rfl, hI, hR2, hB2, hK2⟩ := hrel
    clear HB1 ew d1 HTK hf
    have HL2 : Aside0 (row2.length = row.length) := ⟨hI.out.1⟩
    cases gk with
    | succ k1 =>
      have hjl : j < row.length := by omega
      have c0 : decide ((j : Int) < (row.length : Int)) = true := by simp; omega
      have hx : row2[j]'(by rw [HL2.out]; exact hjl) = row[j] := by
        have h1 := hI.out.2.2.1
        have h2 : (row2.drop j)[0]? = (row.drop j)[0]? := by rw [h1]
        rw [List.getElem?_drop, List.getElem?_drop] at h2
        simp only [Nat.add_zero] at h2
        rw [List.getElem?_eq_getElem hjl, List.getElem?_eq_getElem (by rw [HL2.out]; exact hjl)] at h2
        exact Option.some.inj h2
      obtain ⟨x, hxx⟩ : ∃ x, row[j] = x := ⟨_, rfl⟩
      have hc := (row_cells hR2.out j (by rw [HL2.out]; exact hjl)).1
      rw [hx, hxx] at hc
      obtain ⟨q0, q1, q2, q3⟩ := hc
      have p1 : (0 ≤ (j : Int)) = True := eq_true (by omega)
      have p2 : ((j : Int) < (row.length : Int)) = True := eq_true (by omega)
      have p3 : (0 ≤ (i : Int)) = True := eq_true (by omega)
      have p4 : ((i : Int) < (row.length : Int)) = True := eq_true (by omega)
      have hq' : wr.cell? ⟨q, 0, none⟩ = some (.int .i64 b) := by
        have hlq := World.block_lt_of_cell? w ⟨q, 0, none⟩ HQ.out
        have := hK2.out.2 q hlq hqg
        simp only [World.cell?] at HQ ⊢
        rw [this]
        exact HQ.out
      have ej : Aside0 (wrap64 ((j : Int) + 1) = ((j + 1 : Nat) : Int)) := ⟨by have := HN.out; unfold wrap64; omega⟩
      have ei : Aside0 (wrap64 ((i : Int) + 1) = ((i + 1 : Nat) : Int)) := ⟨by have := HN.out; unfold wrap64; omega⟩
      have htk : (row.take (j + 1)).filter (keepB b) = (row.take j).filter (keepB b) ++ (if (x.f0 == b) = true then [] else [x]) := by
        rw [List.take_succ_eq_append_getElem hjl, List.filter_append, hxx]
        cases h : (x.f0 == b) <;> simp [keepB, h]
      have HTK := Aside0.mk htk
      clear hx hxx htk
      go_upto_region 8 with (first | ((with_reducible refine gate_dst (N := 7) rfl ?_); refine box_event ?hg (N := 7) ?hd (cs := #[.int .i64 0, .int .i64 0, .bool false, .bool false]) (t := 59) ?hr ?_; (case hd => rfl); (case hg => rfl); (case hr => first | (go_simp; done) | (go_simp; rfl)); intro gi hgi w7 hbox hb7; have z0 : w7.cell? ⟨gi, 0, none⟩ = some (.int .i64 0) := (blk_cell hbox 0).trans rfl; have z1 : w7.cell? ⟨gi, 1, none⟩ = some (.int .i64 0) := (blk_cell hbox 1).trans rfl; have z2 : w7.cell? ⟨gi, 2, none⟩ = some (.bool false) := (blk_cell hbox 2).trans rfl; have z3 : w7.cell? ⟨gi, 3, none⟩ = some (.bool false) := (blk_cell hbox 3).trans rfl; have y0 := blk_frozen hbox 0; have y1 := blk_frozen hbox 1; have y2 := blk_frozen hbox 2; have y3 := blk_frozen hbox 3; have HX := Aside0.mk hbox; have HI := Aside0.mk hgi; have HB7 := Aside0.mk hb7; clear hbox hgi hb7))
      have hi8 : ((((w7.setCell ⟨gi, 0, none⟩ (.int .i64 x.f0)).setCell ⟨gi, 1, none⟩ (.int .i64 x.f1)).setCell ⟨gi, 2, none⟩ (.bool x.f2)).setCell ⟨gi, 3, none⟩ (.bool x.f3)).heap[gi]? = some (.cells #[.int .i64 x.f0, .int .i64 x.f1, .bool x.f2, .bool x.f3] 59 (0, 0)) := blk_put (blk_put (blk_put (blk_put HX.out 0 _ rfl) 1 _ rfl) 2 _ rfl) 3 _ rfl
      have hgi2 : wr.heap.size ≤ gi := Nat.le_of_eq HI.out.symm
      have hb8 : Below wr.heap.size wr ((((w7.setCell ⟨gi, 0, none⟩ (.int .i64 x.f0)).setCell ⟨gi, 1, none⟩ (.int .i64 x.f1)).setCell ⟨gi, 2, none⟩ (.bool x.f2)).setCell ⟨gi, 3, none⟩ (.bool x.f3)) := (((HB7.out.setCell (p := ⟨gi, 0, none⟩) hgi2 _).setCell (p := ⟨gi, 1, none⟩) hgi2 _).setCell (p := ⟨gi, 2, none⟩) hgi2 _).setCell (p := ⟨gi, 3, none⟩) hgi2 _
      clear z0 z1 z2 z3 y0 y1 y2 y3 q0 q1 q2 q3
      generalize ((((w7.setCell ⟨gi, 0, none⟩ (.int .i64 x.f0)).setCell ⟨gi, 1, none⟩ (.int .i64 x.f1)).setCell ⟨gi, 2, none⟩ (.bool x.f2)).setCell ⟨gi, 3, none⟩ (.bool x.f3)) = w8 at *
      have z0 : w8.cell? ⟨gi, 0, none⟩ = some (.int .i64 x.f0) := (blk_cell hi8 0).trans rfl
      have z1 : w8.cell? ⟨gi, 1, none⟩ = some (.int .i64 x.f1) := (blk_cell hi8 1).trans rfl
      have z2 : w8.cell? ⟨gi, 2, none⟩ = some (.bool x.f2) := (blk_cell hi8 2).trans rfl
      have z3 : w8.cell? ⟨gi, 3, none⟩ = some (.bool x.f3) := (blk_cell hi8 3).trans rfl
      have hq8 := pw_cell_below hb8 hq'
      have HB8 := Aside0.mk hb8
      clear hb8 hi8 hq' HX HB7 HI
      cases hb : (x.f0 == b) with
      | true =>
        go_wp2_with (go_at_call 31; with_reducible refine (isD_calls x q b _ hq8).mono ?_; rw [hb]; rintro e w9 ⟨rfl, hb9⟩; have HB9 := Aside0.mk hb9; clear hb9)
        have hbw := below_step HB8.out HB9.out
        have HBW := Aside0.mk hbw
        clear hbw
        go_roundg k1
        case rel => exact ⟨i, j + 1, row2, by omega, by omega, rfl, by first | rfl | rw [ej.out], ⟨hI.out.1, by rw [HTK.out, hb, if_pos rfl, List.append_nil]; exact hI.out.2.1, by rw [← List.drop_drop, ← List.drop_drop, hI.out.2.2.1], by rw [HTK.out, hb, if_pos rfl, List.append_nil]; exact hI.out.2.2.2⟩, ⟨Kd.R_below hR2.out HBW.out⟩, ⟨below_then hB2.out hB2.out.size HBW.out⟩, ⟨Nat.le_trans hK2.out.1 HBW.out.size, fun k hk hS => (HBW.out.block k (Nat.lt_of_lt_of_le hk hK2.out.1)).trans (hK2.out.2 k hk hS)⟩⟩
        all_goals omega
      | false =>
        have hil : i < row2.length := by rw [HL2.out]; omega
        obtain ⟨y, hy⟩ : ∃ y, row2[i] = y := ⟨_, rfl⟩
        go_wp2_with (go_at_call 31; with_reducible refine (isD_calls x q b _ hq8).mono ?_; rw [hb]; rintro e w9 ⟨rfl, hb9⟩; have u0 := pw_cell_below hb9 z0; have u1 := pw_cell_below hb9 z1; have u2 := pw_cell_below hb9 z2; have u3 := pw_cell_below hb9 z3; have rr := row_cells (Kd.R_below hR2.out (below_step HB8.out hb9)) i hil; rw [hy] at rr; have f0 := rr.2 0; have f1 := rr.2 1; have f2 := rr.2 2; have f3 := rr.2 3; obtain ⟨⟨v0, v1, v2, v3⟩, -⟩ := rr; simp only [Nat.add_zero] at f0; have HB9 := Aside0.mk hb9; clear hb9)
        have hbw := below_step HB8.out HB9.out
        have HBW := Aside0.mk hbw
        clear hbw
        go_roundg k1
        case rel =>
          obtain ⟨r1, r2⟩ := row_put4 (Kd.R_below hR2.out HBW.out) i hil x
          exact ⟨i + 1, j + 1, row2.set i x, by omega, by omega, by first | rfl | rw [ei.out], by first | rfl | rw [ej.out], ⟨by rw [List.length_set]; exact hI.out.1, by rw [HTK.out, hb, if_neg (by decide), ← hI.out.2.1, List.take_succ_eq_append_getElem (by rw [List.length_set]; exact hil), List.take_set_of_le (Nat.le_refl _), List.getElem_set_self], by rw [List.drop_set_of_lt (by omega), ← List.drop_drop, ← List.drop_drop, hI.out.2.2.1], by rw [HTK.out, hb, if_neg (by decide), List.length_append, ← hI.out.2.2.2]; rfl⟩, ⟨r1⟩, ⟨below_grown (below_then hB2.out hB2.out.size HBW.out) r2 hgr0 (Nat.le_trans hB2.out.size HBW.out.size)⟩, ⟨Nat.le_trans (Nat.le_trans hK2.out.1 HBW.out.size) r2.size, fun k hk hS => (r2.block k (Nat.lt_of_lt_of_le hk (Nat.le_trans hK2.out.1 HBW.out.size)) (fun e => hS (by injection e))).trans ((HBW.out.block k (Nat.lt_of_lt_of_le hk hK2.out.1)).trans (hK2.out.2 k hk hS))⟩⟩
        all_goals omega
    | zero =>
      obtain rfl : j = row.length := by omega
      have hI' := hI.out
      rw [List.take_length] at hI'
      have hcl : ∀ ty, (Builtin.clear_ #[53] ty #[.slice (some ⟨gr, i * 4, none⟩) (row.length - i) (cap - i)]).run Try.prog wr = .ok (.tuple #[]) (wr.setCells gr (i * 4) (zeros (row.length - i))) := fun ty => run_clearR hR2.out i (row.length - i) (cap - i) (by omega) (by rw [HL2.out]; omega) ty
      obtain ⟨row3, r1, r2, r3, r4⟩ := clear_rows hR2.out i (row.length - i) (by rw [HL2.out]; omega)
      have c0 : decide ((row.length : Int) < (row.length : Int)) = false := by simp
      have p1 : (0 ≤ (i : Int)) = True := eq_true (by omega)
      have p2 : ((i : Int) ≤ (row.length : Int)) = True := eq_true (by omega)
      have p3 : ((i : Int) ≤ (cap : Int)) = True := eq_true (by omega)
      have p4 : ((row.length : Int) ≤ (cap : Int)) = True := eq_true (by omega)
      have hci : ¬ (cap = i) := by omega
      have HI := Aside0.mk hI'
      clear hI hI'
      go_wp2_with (simp only [hcl])
      go_ret
      have hlen := HI.out.2.2.2
      have ht := Kd.R_take r3 (show i ≤ row3.length by rw [r1, HL2.out]; omega)
      rw [r2, HI.out.2.1] at ht
      rw [← hlen]
      exact ⟨rfl, ht, below_grown hB2.out r4 hgr0 hB2.out.size, Nat.le_trans hK2.out.1 r4.size, fun k hk hS => (r4.block k (Nat.lt_of_lt_of_le hk hK2.out.1) (fun e => hS (by injection e))).trans (hK2.out.2 k hk hS)⟩
end Go.Proofs.Ytlmnagbfmkaglaa.CC
/-! Contracts: Drop of the package cache. -/
namespace Go.Proofs.Ytlmnagbfmkaglaa.CC
open Go.RowKit Go.Proofs.Ytlmnagbfmkaglaa.PG Go.Proofs.YtlmnagbfmkaglaaW.PrintWords Go.Proofs.YtlmnagbfmkaglaaW.PrintLast Go.Proofs.YtlmnagbfmkaglaaW.PrintMore
attribute [local go_sem] Oper.semAt_some
def dropC (row : List S59) (h : Nat) (b : Int) : Int × List S59 × Nat :=
  if ix row b < 0 then (5, row, h) else if canB (row.getD (ix row b).toNat z59) = true then (0, (rot row h).filter (keepB b), 0) else (12, row, h)
theorem ix_mem {row : List S59} {b : Int} : (∃ x ∈ row, (x.f0 == b) = true) → 0 ≤ ix row b := by
  rintro ⟨x, hx, hb⟩
  have := List.findIdx_lt_length_of_exists (p := fun x => x.f0 == b) ⟨x, hx, hb⟩
  unfold ix
  rw [if_pos this]
  omega
theorem ix_rot {row : List S59} {b : Int} {h n : Nat} (hix : ix row b = (n : Int)) : 0 ≤ ix (rot row h) b := by
  have hlt : n < row.length := by rcases ix_range row b with h | h <;> omega
  refine ix_mem ⟨row[n], ?_, ?_⟩
  · unfold rot
    rw [List.mem_append]
    have hm : row[n] ∈ row.take h ++ row.drop h := by rw [List.take_append_drop]; exact List.getElem_mem hlt
    rw [List.mem_append] at hm
    exact hm.symm
  · unfold ix at hix
    split at hix
    · next hl =>
      have := List.findIdx_getElem (xs := row) (p := fun x => x.f0 == b) (w := hl)
      have e : row.findIdx (fun x => x.f0 == b) = n := by omega
      simpa [e] using this
    · omega
set_option maxRecDepth 100000 in
set_option maxHeartbeats 4000000 in
theorem Drop_calls (g : Nat) (P : Nat → Prop) (most : Int) (hand : Nat) (row : List S59) (b : Int) (w0 w : World) (hB : Below w0.heap.size w0 w) (h : CS w0.heap.size P w g most row (hand : Int)) (hh : hand ≤ row.length) (hn : row.length < 1000) :
    Calls Try.prog 18 #[.pointer (some ⟨g, 0, none⟩), .int .i64 b] w fun e w' => e = .returned (.int .i64 (dropC row hand b).1) ∧ CS w0.heap.size (fun k => P k ∨ w.heap.size ≤ k) w' g most (dropC row hand b).2.1 ((dropC row hand b).2.2 : Nat) ∧ Below w0.heap.size w0 w' ∧ Kept w w' P := by
  have HB := Aside0.mk hB
  have HS := Aside0.mk h
  have same_ : ∀ w', Below w.heap.size w w' → CS w0.heap.size (fun k => P k ∨ w.heap.size ≤ k) w' g most row (hand : Int) ∧ Below w0.heap.size w0 w' ∧ Kept w w' P := fun w' hb => ⟨(HS.out.below hb).mono (fun k hk => .inl hk), below_then HB.out HB.out.size hb, kept_below _ hb⟩
  have SAME := Aside0.mk same_
  clear same_
  unfold dropC
  rcases find_cs b h hn with ⟨hm, hf⟩ | ⟨n, gr, cap, hlt, hm, -, hg, hR, hne, hP, hb0, hl, hf⟩
  · rw [hm, if_pos (by decide)]
    clear h hB
    go_enter Try.func18, Try.ntmps18
    go_wp2_with (first | ((with_reducible refine gate_dst (N := 3) rfl ?_); refine box_event ?hg (N := 3) ?hd (cs := #[.int .i64 b]) (t := 3) ?hr ?_; (case hd => rfl); (case hg => rfl); (case hr => first | (go_simp; done) | (go_simp; rfl)); intro gq hgq w5 hbox hb; have cq : w5.cell? ⟨gq, 0, none⟩ = some (.int .i64 b) := (blk_cell hbox 0).trans rfl; have HB5 := Aside0.mk hb; clear hb hbox hgq) | (go_at_call 25; with_reducible refine (hf _ HB5.out).mono ?_; rintro e w6 ⟨rfl, hb6⟩))
    go_ret
    exact ⟨rfl, SAME.out _ (below_step HB5.out hb6)⟩
  · have hrot := ix_rot (h := hand) hm
    rw [hm, if_neg (by omega), Int.toNat_natCast, getD_at _ _ hlt]
    obtain ⟨x, hx⟩ : ∃ x, row[n] = x := ⟨_, rfl⟩
    have hc := (row_cells hR n hlt).1
    rw [hx] at hc ⊢
    have HC := Aside0.mk hc
    have HG := Aside0.mk hg
    clear hR hg h hB hc hx
    cases hcan : canB x with
    | false =>
      rw [if_neg (by decide)]
      go_enter Try.func18, Try.ntmps18
      go_wp2_with (first | ((with_reducible refine gate_dst (N := 3) rfl ?_); refine box_event ?hg (N := 3) ?hd (cs := #[.int .i64 b]) (t := 3) ?hr ?_; (case hd => rfl); (case hg => rfl); (case hr => first | (go_simp; done) | (go_simp; rfl)); intro gq hgq w5 hbox hb; have cq : w5.cell? ⟨gq, 0, none⟩ = some (.int .i64 b) := (blk_cell hbox 0).trans rfl; have HB5 := Aside0.mk hb; clear hb hbox hgq) | (go_at_call 25; with_reducible refine (hf _ HB5.out).mono ?_; rintro e w6 ⟨rfl, hb6⟩; have hbw := below_step HB5.out hb6; have HB6 := Aside0.mk hbw; have x0 := pw_cell_below hbw HC.out.1; have x1 := pw_cell_below hbw HC.out.2.1; have x2 := pw_cell_below hbw HC.out.2.2.1; have x3 := pw_cell_below hbw HC.out.2.2.2; clear hb6 hbw) | (go_at_call 28; with_reducible refine (can_calls x _).mono ?_; rw [hcan]; rintro e w7 ⟨rfl, hb7⟩))
      go_ret
      exact ⟨rfl, SAME.out _ (below_step HB6.out hb7)⟩
    | true =>
      rw [if_pos rfl]
      go_enter Try.func18, Try.ntmps18
      go_upto_region 8 with (first | ((with_reducible refine gate_dst (N := 3) rfl ?_); refine box_event ?hg (N := 3) ?hd (cs := #[.int .i64 b]) (t := 3) ?hr ?_; (case hd => rfl); (case hg => rfl); (case hr => first | (go_simp; done) | (go_simp; rfl)); intro gq hgq w5 hbox hb; have cq : w5.cell? ⟨gq, 0, none⟩ = some (.int .i64 b) := (blk_cell hbox 0).trans rfl; have HX5 := Aside0.mk hbox; have HI5 := Aside0.mk hgq; have HB5 := Aside0.mk hb; clear hb hbox hgq) | (go_at_call 25; with_reducible refine (hf _ HB5.out).mono ?_; rintro e w6 ⟨rfl, hb6⟩; have hbw := below_step HB5.out hb6; have HB6 := Aside0.mk hbw; have HB56 := Aside0.mk hb6; have x0 := pw_cell_below hbw HC.out.1; have x1 := pw_cell_below hbw HC.out.2.1; have x2 := pw_cell_below hbw HC.out.2.2.1; have x3 := pw_cell_below hbw HC.out.2.2.2; clear hb6 hbw) | (go_at_call 28; with_reducible refine (can_calls x _).mono ?_; rw [hcan]; rintro e w7 ⟨rfl, hb7⟩; have HB7 := Aside0.mk hb7; clear hb7))
      have hbw7 : Below w.heap.size w w7 := below_step HB6.out HB7.out
      have hq7 : w7.heap[gq]? = some (.cells #[.int .i64 b] 3 (0, 0)) := blk_below (blk_below HX5.out HB56.out) HB7.out
      have hgqw : w.heap.size ≤ gq := Nat.le_of_eq HI5.out.symm
      have hcs := (HS.out.bound).below hbw7
      have hB7 : Below w0.heap.size w0 w7 := below_then HB.out HB.out.size hbw7
      have HQ7 := Aside0.mk hq7
      have HW7 := Aside0.mk hbw7
      clear x0 x1 x2 x3 cq hq7 hbw7 HB56 HB6 HB7 HX5 HB5
      go_upto_region 9 with (go_at_call 26; with_reducible refine (straight_calls g _ most hand row w0 _ hB7 hcs hh hn).mono ?_; rintro e w8 ⟨rfl, hc8, hb8, hk8⟩; have CS8 := Aside0.mk hc8; have B8 := Aside0.mk hb8; have K8 := Aside0.mk hk8; clear hc8 hb8 hk8)
      have hq8 : w8.heap[gq]? = some (.cells #[.int .i64 b] 3 (0, 0)) := (K8.out.2 gq (blk_lt HQ7.out) (fun h => absurd h.2 (by omega))).trans HQ7.out
      obtain ⟨m8, hm8⟩ := Int.eq_ofNat_of_zero_le hrot
      obtain ⟨gr8, cap8, hg8, hR8, hne8, hP8, hb08, hl8, -, -⟩ := cs_open CS8.out (by rcases ix_range (rot row hand) b with h | h <;> omega)
      have hqne : gq ≠ gr8 := fun e => Kd.R_ne hR8 hq8 (by decide) (by simp [Value.ownBlock, e])
      have hqg : gq ≠ g := fun e => by rw [e, hg8] at hq8; cases hq8
      have hlen : (rot row hand).length = row.length := by simp [rot]; omega
      have c1 : w8.cell? ⟨g, 1, none⟩ = some (.slice (some ⟨gr8, 0, none⟩) (rot row hand).length cap8) := (blk_cell hg8 1).trans rfl
      have hdel := DelF_calls gr8 cap8 gq b (rot row hand) _ w0 w8 B8.out hR8 ((blk_cell hq8 0).trans rfl) hqne (by omega) m8 hm8
      rw [hlen] at hdel c1 hR8 hg8
      have HR8 := Aside0.mk hR8
      have HG8 := Aside0.mk hg8
      clear hR8 hg8 hq8
      have hc9 : ∀ w9, Kept w8 w9 (fun k => k = gr8) → w9.cell? ⟨g, 1, none⟩ = some (.slice (some ⟨gr8, 0, none⟩) row.length cap8) ∧ w9.frozen? ⟨g, 1, none⟩ = false := fun w9 hk9 => ⟨(blk_cell ((hk9.2 g (blk_lt HG8.out) hne8).trans HG8.out) 1).trans rfl, blk_frozen ((hk9.2 g (blk_lt HG8.out) hne8).trans HG8.out) 1⟩
      go_wp2_with (go_at_call 30; with_reducible refine hdel.mono ?_; rintro e w9 ⟨rfl, hr9, hb9, hk9⟩; obtain ⟨c9, f9⟩ := hc9 _ hk9; have HR9 := Aside0.mk hr9; have HB9 := Aside0.mk hb9; have HK9 := Aside0.mk hk9; clear hr9 hb9 hk9)
      go_ret
      have hg9 := (HK9.out.2 g (blk_lt HG8.out) hne8).trans HG8.out
      have hlt8 := blk_lt HG8.out
      have o1 := Kd.R_set (HR9.out) hg9 (by simp [show k59.E = [] from rfl]) 1 (.slice (some ⟨gr8, 0, none⟩) ((rot row hand).filter (keepB b)).length cap8)
      refine ⟨rfl, ⟨HS.out.base, .inl HS.out.mine, _, blk_put hg9 1 _ rfl, Kd.R_mono o1 (fun k hk => ?_)⟩, HB9.out.setCell (p := ⟨g, 1, none⟩) HS.out.base _, ?_, fun k hk hS => ?_⟩
      · rcases hk with hk | hk
        · exact .inl hk.1
        · exact .inr (Nat.le_trans HW7.out.size hk)
      · rw [World.size_setCell]; exact Nat.le_trans (Nat.le_trans HW7.out.size K8.out.1) HK9.out.1
      · have hkg : k ≠ g := fun e => hS (e ▸ HS.out.mine)
        have hk7 : k < w7.heap.size := Nat.lt_of_lt_of_le hk HW7.out.size
        have hk8 : k < w8.heap.size := Nat.lt_of_lt_of_le hk7 K8.out.1
        rw [Below.heap_setCell _ _ _ k hkg]
        refine (HK9.out.2 k hk8 (fun e => ?_)).trans ((K8.out.2 k hk7 (fun h => hS h.1)).trans (HW7.out.block k hk))
        rcases hP8 with h | h
        · exact hS (e ▸ h.1)
        · exact absurd hk7 (by omega)
end Go.Proofs.Ytlmnagbfmkaglaa.CC
