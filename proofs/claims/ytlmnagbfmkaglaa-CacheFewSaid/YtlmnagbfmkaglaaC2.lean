import Derived.Test.YtlmnagbfmkaglaaC1
/-! Contracts of the package cache: Pins, Pin, Dirty. -/
namespace Go.Proofs.Ytlmnagbfmkaglaa.CC
open Go.RowKit Go.Proofs.Ytlmnagbfmkaglaa.PG Go.Proofs.YtlmnagbfmkaglaaW.PrintWords Go.Proofs.YtlmnagbfmkaglaaW.PrintLast Go.Proofs.YtlmnagbfmkaglaaW.PrintMore
attribute [local go_sem] Oper.semAt_some
theorem row_cells {B : Nat} {P : Nat → Prop} {w : World} {gr cap m : Nat} {row : List S59} (hR : Kd.R k59 59 w B P (.slice (some ⟨gr, 0, none⟩) m cap) row) (n : Nat) (hn : n < row.length) :
    (w.cell? ⟨gr, n * 4, none⟩ = some (.int .i64 row[n].f0) ∧ w.cell? ⟨gr, n * 4 + 1, none⟩ = some (.int .i64 row[n].f1) ∧ w.cell? ⟨gr, n * 4 + 2, none⟩ = some (.bool row[n].f2) ∧ w.cell? ⟨gr, n * 4 + 3, none⟩ = some (.bool row[n].f3)) ∧ ∀ j, w.frozen? ⟨gr, n * 4 + j, none⟩ = false := by
  have hm := (Kd.R_reads' hR).1
  obtain ⟨c, hc, hM, hcc, hf⟩ := Kd.R_elem hR z59 (n : Int) (by omega) (by omega)
  obtain rfl := k59_openM hM
  have e : row.getD (n : Int).toNat z59 = row[n] := by rw [Int.toNat_natCast, List.getD_eq_getElem?_getD, List.getElem?_eq_getElem hn, Option.getD_some]
  have hs : k59.sz = 4 := rfl
  rw [Int.toNat_natCast, hs] at hcc hf
  rw [Int.toNat_natCast] at e
  rw [e] at hcc
  exact ⟨⟨hcc 0 _ rfl, hcc 1 _ rfl, hcc 2 _ rfl, hcc 3 _ rfl⟩, hf⟩
theorem cs_open {B : Nat} {P : Nat → Prop} {w : World} {g : Nat} {most hand : Int} {row : List S59} (h : CS B P w g most row hand) (h0 : 0 < row.length) :
    ∃ gr cap, w.heap[g]? = some (.cells #[.int .i64 most, .slice (some ⟨gr, 0, none⟩) row.length cap, .int .i64 hand] 55 (0, 0)) ∧ Kd.R k59 59 w B P (.slice (some ⟨gr, 0, none⟩) row.length cap) row ∧ g ≠ gr ∧ P gr ∧ B ≤ gr ∧ gr < w.heap.size ∧ row.length ≤ cap ∧ Kd.C k59 w (some ⟨gr, 0, none⟩) row.length row := by
  obtain ⟨h1, h2, v, h3, h4⟩ := h
  obtain ⟨gr, cap, rfl, hb, hl, _⟩ := Kd.R_form h4 h0
  have hne := Kd.R_ne h4 h3 (by decide)
  have hr := Kd.R_reads' h4
  exact ⟨gr, cap, h3, h4, fun e => hne (by simp [Value.ownBlock, e]), h4.1 gr (by simp [Value.ownBlock]), hb, hl, hr.2.1, hr.2.2⟩
/-- A field of an element is written. -/
theorem row_put {B : Nat} {P : Nat → Prop} {w : World} {gr cap m : Nat} {row : List S59} (hR : Kd.R k59 59 w B P (.slice (some ⟨gr, 0, none⟩) m cap) row) (n j : Nat) (hn : n < row.length) (hj : j < 4) (u : Value) (x' : S59)
    (hx : [.int .i64 x'.f0, .int .i64 x'.f1, .bool x'.f2, .bool x'.f3] = ([.int .i64 row[n].f0, .int .i64 row[n].f1, .bool row[n].f2, .bool row[n].f3] : List Value).take j ++ [u] ++ ([.int .i64 row[n].f0, .int .i64 row[n].f1, .bool row[n].f2, .bool row[n].f3] : List Value).drop (j + 1)) :
    Kd.R k59 59 (w.setCell ⟨gr, n * 4 + j, none⟩ u) B P (.slice (some ⟨gr, 0, none⟩) m cap) (row.set n x') ∧ w.grownBy (w.setCell ⟨gr, n * 4 + j, none⟩ u) (some gr) := by
  have hm := (Kd.R_reads' hR).1
  obtain ⟨c, hc, hM, hcc, hf⟩ := Kd.R_elem hR z59 (n : Int) (by omega) (by omega)
  obtain rfl := k59_openM hM
  have e : row.getD (n : Int).toNat z59 = row[n] := by rw [Int.toNat_natCast, List.getD_eq_getElem?_getD, List.getElem?_eq_getElem hn, Option.getD_some]
  rw [e] at hcc hc
  have := Kd.R_seg (seg := [u]) (j := j) (x' := x') (okp := fun k => P k ∧ k ≠ gr) hR (n : Int) (by omega) (by omega) hc hcc (by show j + 1 ≤ 4; omega) (by
    show k59.M w B _ x' _
    have e2 : ([.int .i64 row[n].f0, .int .i64 row[n].f1, .bool row[n].f2, .bool row[n].f3] : List Value).take j ++ [u] ++ ([.int .i64 row[n].f0, .int .i64 row[n].f1, .bool row[n].f2, .bool row[n].f3] : List Value).drop (j + [u].length) = [.int .i64 x'.f0, .int .i64 x'.f1, .bool x'.f2, .bool x'.f3] := hx.symm
    rw [e2]
    exact k59_mkM _ _ _ x') (fun k hk => hk)
  have hs : k59.sz = 4 := rfl
  rw [Int.toNat_natCast, hs] at this
  exact this
theorem CS.put {B : Nat} {P : Nat → Prop} {w w2 : World} {g gr cap : Nat} {most hand : Int} {row row2 : List S59} (h1 : B ≤ g) (h2 : P g) (hP : P gr) (hne : g ≠ gr) (hlen : row2.length = row.length)
    (hg : w.heap[g]? = some (.cells #[.int .i64 most, .slice (some ⟨gr, 0, none⟩) row.length cap, .int .i64 hand] 55 (0, 0))) (hR : Kd.R k59 59 w2 B P (.slice (some ⟨gr, 0, none⟩) row.length cap) row2) (hgr : w.grownBy w2 (some gr)) : CS B P w2 g most row2 hand ∧ Kept w w2 P := by
  have hlt := blk_lt hg
  exact ⟨⟨h1, h2, _, by rw [hgr.block g hlt (fun e => hne (by injection e))]; exact hg, hR⟩, hgr.size, fun k hk hS => hgr.block k hk (fun e => hS (by injection e with e; rw [e]; exact hP))⟩
theorem below_grown {B : Nat} {w0 w w2 : World} {gr : Nat} (hb : Below B w0 w) (hgr : w.grownBy w2 (some gr)) (hB : B ≤ gr) (hB2 : B ≤ w.heap.size) : Below B w0 w2 := hb.trans ⟨hgr.os, hgr.tape, hgr.output, hgr.size, fun k hk => hgr.block k (by omega) (fun e => by injection e with e; omega)⟩
def pinsC (row : List S59) (b : Int) : Int := if ix row b < 0 then 0 else (row.getD (ix row b).toNat z59).f1
theorem getD_at (row : List S59) (n : Nat) (h : n < row.length) : row.getD n z59 = row[n] := by rw [List.getD_eq_getElem?_getD, List.getElem?_eq_getElem h, Option.getD_some]
/-- What a call of find finds, in a cache. -/
theorem find_cs {B : Nat} {P : Nat → Prop} {w : World} {g : Nat} {most hand : Int} {row : List S59} (b : Int) (h : CS B P w g most row hand) (hn : row.length < 1000) :
    (ix row b = -1 ∧ ∀ W, Below w.heap.size w W → Calls Try.prog 25 #[.pointer (some ⟨g, 0, none⟩), .int .i64 b] W fun e w' => e = .returned (.pointer none) ∧ Below W.heap.size W w') ∨
    ∃ n gr cap, ∃ hlt : n < row.length, ix row b = (n : Int) ∧ (row[n].f0 == b) = true ∧ w.heap[g]? = some (.cells #[.int .i64 most, .slice (some ⟨gr, 0, none⟩) row.length cap, .int .i64 hand] 55 (0, 0)) ∧ Kd.R k59 59 w B P (.slice (some ⟨gr, 0, none⟩) row.length cap) row ∧ g ≠ gr ∧ P gr ∧ B ≤ gr ∧ gr < w.heap.size ∧
      ∀ W, Below w.heap.size w W → Calls Try.prog 25 #[.pointer (some ⟨g, 0, none⟩), .int .i64 b] W fun e w' => e = .returned (.pointer (some ⟨gr, n * 4, none⟩)) ∧ Below W.heap.size W w' := by
  rcases ix_range row b with hm | ⟨h0, h1⟩
  · left
    refine ⟨hm, fun W hb => ?_⟩
    obtain ⟨-, -, v, hg, hR⟩ := h
    obtain ⟨A, c, rfl, -, hC⟩ := Kd.R_reads hR
    have := find_calls g most hand A c row b W (blk_below hg hb) (Kd.C_below hC hb) (by omega)
    rw [hm, show fp (.slice A row.length c) (-1) = .pointer none by cases A <;> rfl] at this
    exact this
  · right
    obtain ⟨n, hnn⟩ := Int.eq_ofNat_of_zero_le h0
    obtain ⟨gr, cap, hg, hR, hne, hP, hB, hl, -, hC⟩ := cs_open h (by omega)
    refine ⟨n, gr, cap, by omega, hnn, ?_, hg, hR, hne, hP, hB, hl, fun W hb => ?_⟩
    · unfold ix at hnn
      split at hnn
      · next hlt =>
        have := List.findIdx_getElem (xs := row) (p := fun x => x.f0 == b) (w := hlt)
        have e : row.findIdx (fun x => x.f0 == b) = n := by omega
        simpa [e] using this
      · omega
    · have := find_calls g most hand (some ⟨gr, 0, none⟩) cap row b W (blk_below hg hb) (Kd.C_below hC hb) (by omega)
      rw [hnn, show fp (.slice (some ⟨gr, 0, none⟩) row.length cap) (n : Int) = .pointer (some ⟨gr, n * 4, none⟩) by simp [fp, add_plain]] at this
      exact this
theorem Pins_calls (B : Nat) (P : Nat → Prop) (g : Nat) (most hand : Int) (row : List S59) (b : Int) (w : World) (h : CS B P w g most row hand) (hn : row.length < 1000) :
    Calls Try.prog 21 #[.pointer (some ⟨g, 0, none⟩), .int .i64 b] w fun e w' => e = .returned (.int .i64 (pinsC row b)) ∧ Below w.heap.size w w' := by
  unfold pinsC
  rcases find_cs b h hn with ⟨hm, hf⟩ | ⟨n, gr, cap, hlt, hm, -, hg, hR, hne, hP, hB, hl, hf⟩
  · rw [hm]
    go_enter Try.func21, Try.ntmps21
    go_wp2_with (go_at_call 25; with_reducible refine (hf _ (Below.refl _ _)).mono ?_; rintro e w' ⟨rfl, hb⟩)
    go_ret
    exact ⟨rfl, hb⟩
  · rw [hm, if_neg (by omega), Int.toNat_natCast, getD_at _ _ hlt]
    have q1 := (row_cells hR n hlt).1.2.1
    go_enter Try.func21, Try.ntmps21
    go_wp2_with (go_at_call 25; with_reducible refine (hf _ (Below.refl _ _)).mono ?_; rintro e w' ⟨rfl, hb⟩; have q2 := pw_cell_below hb q1)
    go_ret
    exact ⟨rfl, hb⟩
theorem Pins_nil (b : Int) (w : World) : Calls Try.prog 21 #[.pointer none, .int .i64 b] w fun e w' => e = .returned (.int .i64 0) ∧ Below w.heap.size w w' := by
  go_enter Try.func21, Try.ntmps21
  go_wp2_with (go_at_call 25; with_reducible refine (find_nil b _).mono ?_; rintro e w' ⟨rfl, hb⟩)
  go_ret
  exact ⟨rfl, hb⟩
def pin1 (x : S59) (on : Bool) : Int × S59 := if on = true then (0, ⟨x.f0, wrap64 (x.f1 + 1), x.f2, x.f3⟩) else if x.f1 = 0 then (13, x) else (0, ⟨x.f0, wrap64 (x.f1 - 1), x.f2, x.f3⟩)
def pinC (row : List S59) (b : Int) (on : Bool) : Int × List S59 := if ix row b < 0 then (5, row) else ((pin1 (row.getD (ix row b).toNat z59) on).1, row.set (ix row b).toNat (pin1 (row.getD (ix row b).toNat z59) on).2)
theorem Pin_nil (b : Int) (on : Bool) (w : World) : Calls Try.prog 16 #[.pointer none, .int .i64 b, .bool on] w fun e w' => e = .returned (.int .i64 1) ∧ Below w.heap.size w w' := by
  go_enter Try.func16, Try.ntmps16
  go_wp2_with (go_at_call 25; with_reducible refine (find_nil b _).mono ?_; rintro e w' ⟨rfl, hb⟩)
  go_ret
  exact ⟨rfl, hb⟩
theorem Pin_calls (g : Nat) (P : Nat → Prop) (most hand : Int) (row : List S59) (b : Int) (on : Bool) (w0 w : World) (hB : Below w0.heap.size w0 w) (h : CS w0.heap.size P w g most row hand) (hn : row.length < 1000) :
    Calls Try.prog 16 #[.pointer (some ⟨g, 0, none⟩), .int .i64 b, .bool on] w fun e w' => e = .returned (.int .i64 (pinC row b on).1) ∧ CS w0.heap.size P w' g most (pinC row b on).2 hand ∧ Below w0.heap.size w0 w' ∧ Kept w w' P := by
  have HB := Aside0.mk hB
  have HS := Aside0.mk h
  unfold pinC
  rcases find_cs b h hn with ⟨hm, hf⟩ | ⟨n, gr, cap, hlt, hm, -, hg, hR, hne, hP, hb0, hl, hf⟩
  · rw [hm, if_pos (by decide)]
    clear h hB
    go_enter Try.func16, Try.ntmps16
    go_wp2_with (go_at_call 25; with_reducible refine (hf _ (Below.refl _ _)).mono ?_; rintro e w' ⟨rfl, hb⟩)
    go_ret
    exact ⟨rfl, HS.out.below hb, below_then HB.out HB.out.size hb, kept_below _ hb⟩
  · rw [hm, if_neg (by omega), Int.toNat_natCast, getD_at _ _ hlt]
    have q1 := (row_cells hR n hlt).1.2.1
    have f1 := (row_cells hR n hlt).2 1
    have HR := Aside0.mk hR
    have HG := Aside0.mk hg
    clear hR hg h hB
    have end_ : ∀ w6 x', Below w.heap.size w w6 → ∀ u, [.int .i64 x'.f0, .int .i64 x'.f1, .bool x'.f2, .bool x'.f3] = ([.int .i64 row[n].f0, .int .i64 row[n].f1, .bool row[n].f2, .bool row[n].f3] : List Value).take 1 ++ [u] ++ ([.int .i64 row[n].f0, .int .i64 row[n].f1, .bool row[n].f2, .bool row[n].f3] : List Value).drop (1 + 1) →
        CS w0.heap.size P (w6.setCell ⟨gr, n * 4 + 1, none⟩ u) g most (row.set n x') hand ∧ Below w0.heap.size w0 (w6.setCell ⟨gr, n * 4 + 1, none⟩ u) ∧ Kept w (w6.setCell ⟨gr, n * 4 + 1, none⟩ u) P := fun w6 x' hb u hx => by
      obtain ⟨r1, r2⟩ := row_put (Kd.R_below HR.out hb) n 1 hlt (by omega) u x' hx
      obtain ⟨s1, s2⟩ := CS.put HS.out.base HS.out.mine hP hne (List.length_set ..) (blk_below HG.out hb) r1 r2
      exact ⟨s1, below_grown (below_then HB.out HB.out.size hb) r2 hb0 (Nat.le_trans HB.out.size hb.size), Nat.le_trans hb.size r2.size, fun k hk hS => (r2.block k (Nat.lt_of_lt_of_le hk hb.size) (fun e => hS (by injection e with e; rw [e]; exact hP))).trans (hb.block k hk)⟩
    have END := Aside0.mk end_
    clear end_
    cases on with
    | true =>
      rw [pin1, if_pos rfl]
      go_enter Try.func16, Try.ntmps16
      go_wp2_with (go_at_call 25; with_reducible refine (hf _ (Below.refl _ _)).mono ?_; rintro e w' ⟨rfl, hb⟩; have q2 := pw_cell_below hb q1; have f2 := (row_cells (Kd.R_below HR.out hb) n hlt).2 1; have HB6 := Aside0.mk hb)
      go_ret
      exact ⟨rfl, END.out _ _ HB6.out _ rfl⟩
    | false =>
      by_cases h0 : row[n].f1 = 0
      · have d0 : (row[n].f1 == 0) = true := by simpa using h0
        rw [pin1, if_neg (by decide), if_pos h0, List.set_getElem_self]
        go_enter Try.func16, Try.ntmps16
        go_wp2_with (go_at_call 25; with_reducible refine (hf _ (Below.refl _ _)).mono ?_; rintro e w' ⟨rfl, hb⟩; have q2 := pw_cell_below hb q1)
        go_ret
        exact ⟨rfl, HS.out.below hb, below_then HB.out HB.out.size hb, kept_below _ hb⟩
      · have d0 : (row[n].f1 == 0) = false := by simpa using h0
        rw [pin1, if_neg (by decide), if_neg h0]
        go_enter Try.func16, Try.ntmps16
        go_wp2_with (go_at_call 25; with_reducible refine (hf _ (Below.refl _ _)).mono ?_; rintro e w' ⟨rfl, hb⟩; have q2 := pw_cell_below hb q1; have f2 := (row_cells (Kd.R_below HR.out hb) n hlt).2 1; have HB6 := Aside0.mk hb)
        go_ret
        exact ⟨rfl, END.out _ _ HB6.out _ rfl⟩
end Go.Proofs.Ytlmnagbfmkaglaa.CC
