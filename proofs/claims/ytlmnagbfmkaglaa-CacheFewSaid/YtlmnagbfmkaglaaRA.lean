import Derived.Test.YtlmnagbfmkaglaaC3
/-! Contracts of the document's cache: a state in memory, at, New, Has, Pins. -/
namespace Go.Proofs.Ytlmnagbfmkaglaa.CC
open Go.RowKit Go.Proofs.Ytlmnagbfmkaglaa.PG Go.Proofs.YtlmnagbfmkaglaaW.PrintWords Go.Proofs.YtlmnagbfmkaglaaW.PrintLast Go.Proofs.YtlmnagbfmkaglaaW.PrintMore
attribute [local go_sem] Oper.semAt_some
/-- The document's cache in memory: what it may have, its row. -/
structure RS (B : Nat) (P : Nat → Prop) (w : World) (g : Nat) (most : Int) (l : List S71) : Prop where
  base : B ≤ g
  mine : P g
  held : ∃ v, w.heap[g]? = some (.cells #[.int .i64 most, v] 67 (0, 0)) ∧ Kd.R k71 71 w B P v l
theorem RS.below {B : Nat} {P : Nat → Prop} {w w' : World} {g : Nat} {most : Int} {l : List S71} (h : RS B P w g most l) (hb : Below w.heap.size w w') : RS B P w' g most l := by
  obtain ⟨h1, h2, v, h3, h4⟩ := h
  exact ⟨h1, h2, v, blk_below h3 hb, Kd.R_below h4 hb⟩
theorem RS.mono {B : Nat} {P P' : Nat → Prop} {w : World} {g : Nat} {most : Int} {l : List S71} (h : RS B P w g most l) (hP : ∀ k, P k → P' k) : RS B P' w g most l := by
  obtain ⟨h1, h2, v, h3, h4⟩ := h
  exact ⟨h1, hP _ h2, v, h3, Kd.R_mono h4 hP⟩
theorem RS.kept {B : Nat} {P S : Nat → Prop} {w w' : World} {g : Nat} {most : Int} {l : List S71} (h : RS B P w g most l) (hk : Kept w w' S) (hd : ∀ k, P k → ¬ S k) : RS B (fun k => P k ∧ k < w.heap.size) w' g most l := by
  obtain ⟨h1, h2, v, h3, h4⟩ := h
  have hlt : g < w.heap.size := blk_lt h3
  refine ⟨h1, ⟨h2, hlt⟩, v, ?_, Kd.R_mono (Kd.R_keptB h4 hk hd) (fun k hk => ⟨hk.1, hk.2.2⟩)⟩
  rw [hk.2 g hlt (hd g h2)]; exact h3
theorem RS.bound {B : Nat} {P : Nat → Prop} {w : World} {g : Nat} {most : Int} {l : List S71} (h : RS B P w g most l) : RS B (fun k => P k ∧ k < w.heap.size) w g most l := by
  obtain ⟨h1, h2, v, h3, h4⟩ := h
  exact ⟨h1, ⟨h2, blk_lt h3⟩, v, h3, Kd.R_mono (Kd.R_bound h4) (fun k hk => ⟨hk.1, hk.2.2.1⟩)⟩
/-- Where a block is in the document's row; -1: it is not. -/
def ixR (l : List S71) (b : Int) : Int := if l.findIdx (fun x => x.f0 == b) < l.length then (l.findIdx (fun x => x.f0 == b) : Int) else -1
theorem ixR_hit {l : List S71} {b : Int} {i : Nat} (hi : i < l.length) (h : (l[i].f0 == b) = true) (hb : ∀ x ∈ l.take i, (x.f0 == b) = false) : ixR l b = (i : Int) := by
  have e : l.findIdx (fun x => x.f0 == b) = i := (List.findIdx_eq hi).2 ⟨h, fun j hj => by
    have := hb (l[j]) (by rw [List.mem_take_iff_getElem]; exact ⟨j, by omega, rfl⟩)
    exact this⟩
  unfold ixR
  rw [e, if_pos hi]
theorem ixR_miss {l : List S71} {b : Int} (hb : ∀ x ∈ l, (x.f0 == b) = false) : ixR l b = -1 := by
  have e : l.findIdx (fun x => x.f0 == b) = l.length := List.findIdx_eq_length.2 hb
  unfold ixR
  rw [e, if_neg (by omega)]
theorem ixR_range (l : List S71) (b : Int) : ixR l b = -1 ∨ 0 ≤ ixR l b ∧ ixR l b < l.length := by
  unfold ixR
  split
  · right; omega
  · left; rfl
theorem ixR_at {l : List S71} {b : Int} {n : Nat} (h : ixR l b = (n : Int)) : ∃ hlt : n < l.length, (l[n].f0 == b) = true := by
  unfold ixR at h
  split at h
  · next hlt =>
    have := List.findIdx_getElem (xs := l) (p := fun x => x.f0 == b) (w := hlt)
    have e : l.findIdx (fun x => x.f0 == b) = n := by omega
    exact ⟨by omega, by simpa [e] using this⟩
  · omega
set_option maxRecDepth 100000 in
set_option maxHeartbeats 1000000 in
theorem at_calls (g : Nat) (most : Int) (A : Option Addr) (c : Nat) (l : List S71) (b : Int) (w : World) (hg : w.heap[g]? = some (.cells #[.int .i64 most, .slice A l.length c] 67 (0, 0))) (hC : Kd.C k71 w A l.length l) (hn : l.length < 140737488355328) :
    Calls Try.prog 43 #[.pointer (some ⟨g, 0, none⟩), .int .i64 b] w fun e w' => e = .returned (.int .i64 (ixR l b)) ∧ Below w.heap.size w w' := by
  have HC := Aside0.mk hC
  have HG := Aside0.mk hg
  clear hC hg
  go_enter Try.func43, Try.ntmps43
  go_wp2
  go_loopg [5] l.length (fun kq v8 w' => ∃ i : Nat, i + kq = l.length ∧ v8 = .int .i64 (i : Int) ∧ Aside0 (∀ x ∈ l.take i, (x.f0 == b) = false) ∧ Aside0 (Below w.heap.size w w'))
  case atStart => exact ⟨0, by simp, rfl, ⟨by simp⟩, ⟨Below.refl _ _⟩⟩
  case round =>
    obtain ⟨i, hi, rfl, hA, HB⟩ := hrel
    have c1 := pw_cell_below HB.out ((blk_cell HG.out 1).trans rfl)
    cases gk with
    | zero =>
      obtain rfl : i = l.length := by omega
      have hA' := hA.out
      rw [List.take_length] at hA'
      clear hA
      have c0 : decide ((l.length : Int) < (l.length : Int)) = false := by simp
      go_wp2
      go_ret
      exact ⟨by rw [ixR_miss hA']; rfl, HB.out⟩
    | succ k1 =>
      have hlt : i < l.length := by omega
      have c0 : decide ((i : Int) < (l.length : Int)) = true := by simp; omega
      have p123 : 0 ≤ (i : Int) := by omega
      have q123 : (i : Int) < (l.length : Int) := by omega
      obtain ⟨ad, e, hx0, hx1, hx2, hx3⟩ := at_T71 (Kd.C_below HC.out HB.out) (i : Int) p123 q123
      cases e
      have hrd : rd_T71 l (i : Int) = l[i] := by simp [rd_T71, List.getD_eq_getElem?_getD, hlt]
      rw [hrd] at hx0 hx1 hx2 hx3
      obtain ⟨x, hx⟩ : ∃ x, l[i] = x := ⟨_, rfl⟩
      rw [hx] at hx0 hx1 hx2 hx3
      rw [Int.toNat_natCast] at hx0 hx1 hx2 hx3
      have hw : wrap64 ((i : Int) + 1) = ((i + 1 : Nat) : Int) := by unfold wrap64; omega
      replace p123 := eq_true p123
      replace q123 := eq_true q123
      cases hb : (x.f0 == b) with
      | true =>
        go_wp2
        go_ret
        exact ⟨by rw [ixR_hit hlt (by rw [hx]; exact hb) hA.out]; rfl, HB.out⟩
      | false =>
        go_wp2
        go_roundg k1
        case rel => exact ⟨i + 1, by omega, by rw [Int.natCast_add]; rfl, ⟨fun y hy => by
          rw [List.take_succ_eq_append_getElem hlt, List.mem_append, List.mem_singleton, hx] at hy
          rcases hy with hy | rfl
          · exact hA.out y hy
          · exact hb⟩, ⟨HB.out⟩⟩
        all_goals omega
/-- What a call of at finds. -/
theorem at_rs {B : Nat} {P : Nat → Prop} {w : World} {g : Nat} {most : Int} {l : List S71} (b : Int) (h : RS B P w g most l) (hn : l.length < 1000) : Calls Try.prog 43 #[.pointer (some ⟨g, 0, none⟩), .int .i64 b] w fun e w' => e = .returned (.int .i64 (ixR l b)) ∧ Below w.heap.size w w' := by
  obtain ⟨-, -, v, hg, hR⟩ := h
  obtain ⟨A, c, rfl, -, hC⟩ := Kd.R_reads hR
  exact at_calls g most A c l b w hg hC (by omega)
theorem NewR_ok (n : Int) (h1 : 1 ≤ n) (h2 : n ≤ 96) (w : World) : Calls Try.prog 29 #[.int .i64 n] w fun e w' => (∃ g, e = .returned (.pointer (some ⟨g, 0, none⟩)) ∧ RS w.heap.size (fun k => w.heap.size ≤ k) w' g n []) ∧ Below w.heap.size w w' := by
  have d1 : decide (n < 1) = false := by simp; omega
  have d2 : decide (96 < n) = false := by simp; omega
  go_enter Try.func29, Try.ntmps29
  go_wp2_with (first | ((with_reducible refine gate_dst (N := 11) rfl ?_); refine box_event ?hg (N := 11) ?hd (cs := #[.int .i64 n, .slice none 0 0]) (t := 67) ?hr ?_; (case hd => rfl); (case hg => rfl); (case hr => first | (go_simp; done) | (go_simp; rfl)); intro gb hg w5 hbox hb; have HBX := Aside0.mk hb; have HX := Aside0.mk hbox; have HG := Aside0.mk hg; clear hb hbox hg))
  go_ret
  have hgb := HG.out
  exact ⟨⟨gb, rfl, by omega, by omega, _, HX.out, Kd.R_nil _ _ _ _ _⟩, HBX.out⟩
/-- A block is at hand. -/
def hasR (l : List S71) (b : Int) : Bool := decide (0 ≤ ixR l b)
theorem HasR_calls (B : Nat) (P : Nat → Prop) (g : Nat) (most : Int) (l : List S71) (b : Int) (w : World) (h : RS B P w g most l) (hn : l.length < 1000) :
    Calls Try.prog 32 #[.pointer (some ⟨g, 0, none⟩), .int .i64 b] w fun e w' => e = .returned (.bool (hasR l b)) ∧ Below w.heap.size w w' := by
  have hf := at_rs b h hn
  unfold hasR
  generalize ixR l b = q at *
  go_enter Try.func32, Try.ntmps32
  go_wp2_with (go_at_call 43; with_reducible refine hf.mono ?_; rintro e w' ⟨rfl, hb⟩)
  go_ret
  exact ⟨rfl, hb⟩
theorem rs_cells {B : Nat} {P : Nat → Prop} {w : World} {gr cap m : Nat} {l : List S71} (hR : Kd.R k71 71 w B P (.slice (some ⟨gr, 0, none⟩) m cap) l) (n : Nat) (hn : n < l.length) :
    (w.cell? ⟨gr, n * 4, none⟩ = some (.int .i64 l[n].f0) ∧ w.cell? ⟨gr, n * 4 + 1, none⟩ = some (.int .i64 l[n].f1) ∧ w.cell? ⟨gr, n * 4 + 2, none⟩ = some (.bool l[n].f2) ∧ w.cell? ⟨gr, n * 4 + 3, none⟩ = some (.bool l[n].f3)) ∧ ∀ j, w.frozen? ⟨gr, n * 4 + j, none⟩ = false := by
  have hm := (Kd.R_reads' hR).1
  obtain ⟨c, hc, hM, hcc, hf⟩ := Kd.R_elem hR z71 (n : Int) (by omega) (by omega)
  obtain rfl := k71_openM hM
  have e : l.getD (n : Int).toNat z71 = l[n] := by rw [Int.toNat_natCast, List.getD_eq_getElem?_getD, List.getElem?_eq_getElem hn, Option.getD_some]
  have hs : k71.sz = 4 := rfl
  rw [Int.toNat_natCast, hs] at hcc hf
  rw [Int.toNat_natCast] at e
  rw [e] at hcc
  exact ⟨⟨hcc 0 _ rfl, hcc 1 _ rfl, hcc 2 _ rfl, hcc 3 _ rfl⟩, hf⟩
theorem rs_open {B : Nat} {P : Nat → Prop} {w : World} {g : Nat} {most : Int} {l : List S71} (h : RS B P w g most l) (h0 : 0 < l.length) :
    ∃ gr cap, w.heap[g]? = some (.cells #[.int .i64 most, .slice (some ⟨gr, 0, none⟩) l.length cap] 67 (0, 0)) ∧ Kd.R k71 71 w B P (.slice (some ⟨gr, 0, none⟩) l.length cap) l ∧ g ≠ gr ∧ P gr ∧ B ≤ gr ∧ gr < w.heap.size ∧ l.length ≤ cap ∧ Kd.C k71 w (some ⟨gr, 0, none⟩) l.length l := by
  obtain ⟨h1, h2, v, h3, h4⟩ := h
  obtain ⟨gr, cap, rfl, hb, hl, _⟩ := Kd.R_form h4 h0
  have hne := Kd.R_ne h4 h3 (by decide)
  have hr := Kd.R_reads' h4
  exact ⟨gr, cap, h3, h4, fun e => hne (by simp [Value.ownBlock, e]), h4.1 gr (by simp [Value.ownBlock]), hb, hl, hr.2.1, hr.2.2⟩
def pinsR (l : List S71) (b : Int) : Int := if ixR l b < 0 then 0 else (l.getD (ixR l b).toNat z71).f1
theorem getD_at71 (l : List S71) (n : Nat) (h : n < l.length) : l.getD n z71 = l[n] := by rw [List.getD_eq_getElem?_getD, List.getElem?_eq_getElem h, Option.getD_some]
theorem PinsR_calls (B : Nat) (P : Nat → Prop) (g : Nat) (most : Int) (l : List S71) (b : Int) (w : World) (h : RS B P w g most l) (hn : l.length < 1000) :
    Calls Try.prog 33 #[.pointer (some ⟨g, 0, none⟩), .int .i64 b] w fun e w' => e = .returned (.int .i64 (pinsR l b)) ∧ Below w.heap.size w w' := by
  have hf := at_rs b h hn
  unfold pinsR
  rcases ixR_range l b with hm | ⟨h0, h1⟩
  · rw [hm] at hf ⊢
    go_enter Try.func33, Try.ntmps33
    go_wp2_with (go_at_call 43; with_reducible refine hf.mono ?_; rintro e w' ⟨rfl, hb⟩)
    go_ret
    exact ⟨rfl, hb⟩
  · obtain ⟨n, hnn⟩ := Int.eq_ofNat_of_zero_le h0
    rw [hnn] at hf h1 ⊢
    have hlt : n < l.length := by omega
    obtain ⟨gr, cap, hg, hR, -⟩ := rs_open h (by omega)
    rw [if_neg (by omega), Int.toNat_natCast, getD_at71 _ _ hlt]
    have q1 := (rs_cells hR n hlt).1.2.1
    have c1 := (blk_cell hg 1).trans rfl
    have d0 : decide ((n : Int) < 0) = false := by simp
    have p1 : (0 ≤ (n : Int)) = True := eq_true (by omega)
    have p2 : ((n : Int) < (l.length : Int)) = True := eq_true (by omega)
    clear hR hg h
    go_enter Try.func33, Try.ntmps33
    go_wp2_with (go_at_call 43; with_reducible refine hf.mono ?_; rintro e w' ⟨rfl, hb⟩; have q2 := pw_cell_below hb q1; have c2 := pw_cell_below hb c1)
    go_ret
    exact ⟨rfl, hb⟩
end Go.Proofs.Ytlmnagbfmkaglaa.CC
/-! Contracts of the document's cache: Pin, Dirty. -/
namespace Go.Proofs.Ytlmnagbfmkaglaa.CC
open Go.RowKit Go.Proofs.Ytlmnagbfmkaglaa.PG Go.Proofs.YtlmnagbfmkaglaaW.PrintWords Go.Proofs.YtlmnagbfmkaglaaW.PrintLast Go.Proofs.YtlmnagbfmkaglaaW.PrintMore
attribute [local go_sem] Oper.semAt_some
/-- A field of an element is written. -/
theorem rs_put {B : Nat} {P : Nat → Prop} {w : World} {gr cap m : Nat} {l : List S71} (hR : Kd.R k71 71 w B P (.slice (some ⟨gr, 0, none⟩) m cap) l) (n j : Nat) (hn : n < l.length) (hj : j < 4) (u : Value) (x' : S71)
    (hx : [.int .i64 x'.f0, .int .i64 x'.f1, .bool x'.f2, .bool x'.f3] = ([.int .i64 l[n].f0, .int .i64 l[n].f1, .bool l[n].f2, .bool l[n].f3] : List Value).take j ++ [u] ++ ([.int .i64 l[n].f0, .int .i64 l[n].f1, .bool l[n].f2, .bool l[n].f3] : List Value).drop (j + 1)) :
    Kd.R k71 71 (w.setCell ⟨gr, n * 4 + j, none⟩ u) B P (.slice (some ⟨gr, 0, none⟩) m cap) (l.set n x') ∧ w.grownBy (w.setCell ⟨gr, n * 4 + j, none⟩ u) (some gr) := by
  have hm := (Kd.R_reads' hR).1
  obtain ⟨c, hc, hM, hcc, hf⟩ := Kd.R_elem hR z71 (n : Int) (by omega) (by omega)
  obtain rfl := k71_openM hM
  have e : l.getD (n : Int).toNat z71 = l[n] := by rw [Int.toNat_natCast, List.getD_eq_getElem?_getD, List.getElem?_eq_getElem hn, Option.getD_some]
  rw [e] at hcc hc
  have := Kd.R_seg (seg := [u]) (j := j) (x' := x') (okp := fun k => P k ∧ k ≠ gr) hR (n : Int) (by omega) (by omega) hc hcc (by show j + 1 ≤ 4; omega) (by
    show k71.M w B _ x' _
    have e2 : ([.int .i64 l[n].f0, .int .i64 l[n].f1, .bool l[n].f2, .bool l[n].f3] : List Value).take j ++ [u] ++ ([.int .i64 l[n].f0, .int .i64 l[n].f1, .bool l[n].f2, .bool l[n].f3] : List Value).drop (j + [u].length) = [.int .i64 x'.f0, .int .i64 x'.f1, .bool x'.f2, .bool x'.f3] := hx.symm
    rw [e2]
    exact k71_mkM _ _ _ x') (fun k hk => hk)
  have hs : k71.sz = 4 := rfl
  rw [Int.toNat_natCast, hs] at this
  exact this
theorem RS.put {B : Nat} {P : Nat → Prop} {w w2 : World} {g gr cap : Nat} {most : Int} {l row2 : List S71} (h1 : B ≤ g) (h2 : P g) (hP : P gr) (hne : g ≠ gr) (hlen : row2.length = l.length)
    (hg : w.heap[g]? = some (.cells #[.int .i64 most, .slice (some ⟨gr, 0, none⟩) l.length cap] 67 (0, 0))) (hR : Kd.R k71 71 w2 B P (.slice (some ⟨gr, 0, none⟩) l.length cap) row2) (hgr : w.grownBy w2 (some gr)) : RS B P w2 g most row2 ∧ Kept w w2 P := by
  have hlt := blk_lt hg
  exact ⟨⟨h1, h2, _, by rw [hgr.block g hlt (fun e => hne (by injection e))]; exact hg, hR⟩, hgr.size, fun k hk hS => hgr.block k hk (fun e => hS (by injection e with e; rw [e]; exact hP))⟩
def pin1R (x : S71) (on : Bool) : Int × S71 := if on = true then (0, ⟨x.f0, wrap64 (x.f1 + 1), x.f2, x.f3⟩) else if x.f1 = 0 then (13, x) else (0, ⟨x.f0, wrap64 (x.f1 - 1), x.f2, x.f3⟩)
def pinR (l : List S71) (b : Int) (on : Bool) : Int × List S71 := if ixR l b < 0 then (5, l) else ((pin1R (l.getD (ixR l b).toNat z71) on).1, l.set (ixR l b).toNat (pin1R (l.getD (ixR l b).toNat z71) on).2)
theorem PinR_calls (g : Nat) (P : Nat → Prop) (most : Int) (l : List S71) (b : Int) (on : Bool) (w0 w : World) (hB : Below w0.heap.size w0 w) (h : RS w0.heap.size P w g most l) (hn : l.length < 1000) :
    Calls Try.prog 37 #[.pointer (some ⟨g, 0, none⟩), .int .i64 b, .bool on] w fun e w' => e = .returned (.int .i64 (pinR l b on).1) ∧ RS w0.heap.size P w' g most (pinR l b on).2 ∧ Below w0.heap.size w0 w' ∧ Kept w w' P := by
  have HB := Aside0.mk hB
  have HS := Aside0.mk h
  have hf := at_rs b h hn
  unfold pinR
  rcases ixR_range l b with hm | ⟨h0, h1⟩
  · rw [hm, if_pos (by decide)]
    rw [hm] at hf
    clear h hB
    cases on <;> (go_enter Try.func37, Try.ntmps37; go_wp2_with (go_at_call 43; with_reducible refine hf.mono ?_; rintro e w' ⟨rfl, hb⟩); go_ret; exact ⟨rfl, HS.out.below hb, below_then HB.out HB.out.size hb, kept_below _ hb⟩)
  · obtain ⟨n, hnn⟩ := Int.eq_ofNat_of_zero_le h0
    rw [hnn] at hf h1 ⊢
    have hlt : n < l.length := by omega
    obtain ⟨gr, cap, hg, hR, hne, hP, hb0, hl, -⟩ := rs_open h (by omega)
    rw [if_neg (by omega), Int.toNat_natCast, getD_at71 _ _ hlt]
    have q1 := (rs_cells hR n hlt).1.2.1
    have c1 := (blk_cell hg 1).trans rfl
    have d0 : decide ((n : Int) < 0) = false := by simp
    have p1 : (0 ≤ (n : Int)) = True := eq_true (by omega)
    have p2 : ((n : Int) < (l.length : Int)) = True := eq_true (by omega)
    have HR := Aside0.mk hR
    have HG := Aside0.mk hg
    clear hR hg h hB
    have end_ : ∀ w6 x', Below w.heap.size w w6 → ∀ u, [.int .i64 x'.f0, .int .i64 x'.f1, .bool x'.f2, .bool x'.f3] = ([.int .i64 l[n].f0, .int .i64 l[n].f1, .bool l[n].f2, .bool l[n].f3] : List Value).take 1 ++ [u] ++ ([.int .i64 l[n].f0, .int .i64 l[n].f1, .bool l[n].f2, .bool l[n].f3] : List Value).drop (1 + 1) →
        RS w0.heap.size P (w6.setCell ⟨gr, n * 4 + 1, none⟩ u) g most (l.set n x') ∧ Below w0.heap.size w0 (w6.setCell ⟨gr, n * 4 + 1, none⟩ u) ∧ Kept w (w6.setCell ⟨gr, n * 4 + 1, none⟩ u) P := fun w6 x' hb u hx => by
      obtain ⟨r1, r2⟩ := rs_put (Kd.R_below HR.out hb) n 1 hlt (by omega) u x' hx
      obtain ⟨s1, s2⟩ := RS.put HS.out.base HS.out.mine hP hne (List.length_set ..) (blk_below HG.out hb) r1 r2
      exact ⟨s1, below_grown (below_then HB.out HB.out.size hb) r2 hb0 (Nat.le_trans HB.out.size hb.size), Nat.le_trans hb.size r2.size, fun k hk hS => (r2.block k (Nat.lt_of_lt_of_le hk hb.size) (fun e => hS (by injection e with e; rw [e]; exact hP))).trans (hb.block k hk)⟩
    have END := Aside0.mk end_
    clear end_
    cases on with
    | true =>
      rw [pin1R, if_pos rfl]
      go_enter Try.func37, Try.ntmps37
      go_wp2_with (go_at_call 43; with_reducible refine hf.mono ?_; rintro e w' ⟨rfl, hb⟩; have q2 := pw_cell_below hb q1; have c2 := pw_cell_below hb c1; have f2 := (rs_cells (Kd.R_below HR.out hb) n hlt).2 1; have HB6 := Aside0.mk hb)
      go_ret
      exact ⟨rfl, END.out _ _ HB6.out _ rfl⟩
    | false =>
      by_cases h0 : l[n].f1 = 0
      · have d0 : (l[n].f1 == 0) = true := by simpa using h0
        rw [pin1R, if_neg (by decide), if_pos h0, List.set_getElem_self]
        go_enter Try.func37, Try.ntmps37
        go_wp2_with (go_at_call 43; with_reducible refine hf.mono ?_; rintro e w' ⟨rfl, hb⟩; have q2 := pw_cell_below hb q1; have c2 := pw_cell_below hb c1)
        go_ret
        exact ⟨rfl, HS.out.below hb, below_then HB.out HB.out.size hb, kept_below _ hb⟩
      · have d0 : (l[n].f1 == 0) = false := by simpa using h0
        rw [pin1R, if_neg (by decide), if_neg h0]
        go_enter Try.func37, Try.ntmps37
        go_wp2_with (go_at_call 43; with_reducible refine hf.mono ?_; rintro e w' ⟨rfl, hb⟩; have q2 := pw_cell_below hb q1; have c2 := pw_cell_below hb c1; have f2 := (rs_cells (Kd.R_below HR.out hb) n hlt).2 1; have HB6 := Aside0.mk hb)
        go_ret
        exact ⟨rfl, END.out _ _ HB6.out _ rfl⟩
def dirtyR (l : List S71) (b : Int) (on : Bool) : Int × List S71 := if ixR l b < 0 then (5, l) else (0, l.set (ixR l b).toNat ⟨(l.getD (ixR l b).toNat z71).f0, (l.getD (ixR l b).toNat z71).f1, on, (l.getD (ixR l b).toNat z71).f3⟩)
theorem DirtyR_calls (g : Nat) (P : Nat → Prop) (most : Int) (l : List S71) (b : Int) (on : Bool) (w0 w : World) (hB : Below w0.heap.size w0 w) (h : RS w0.heap.size P w g most l) (hn : l.length < 1000) :
    Calls Try.prog 38 #[.pointer (some ⟨g, 0, none⟩), .int .i64 b, .bool on] w fun e w' => e = .returned (.int .i64 (dirtyR l b on).1) ∧ RS w0.heap.size P w' g most (dirtyR l b on).2 ∧ Below w0.heap.size w0 w' ∧ Kept w w' P := by
  have HB := Aside0.mk hB
  have HS := Aside0.mk h
  have hf := at_rs b h hn
  unfold dirtyR
  rcases ixR_range l b with hm | ⟨h0, h1⟩
  · rw [hm, if_pos (by decide)]
    rw [hm] at hf
    clear h hB
    go_enter Try.func38, Try.ntmps38
    go_wp2_with (go_at_call 43; with_reducible refine hf.mono ?_; rintro e w' ⟨rfl, hb⟩)
    go_ret
    exact ⟨rfl, HS.out.below hb, below_then HB.out HB.out.size hb, kept_below _ hb⟩
  · obtain ⟨n, hnn⟩ := Int.eq_ofNat_of_zero_le h0
    rw [hnn] at hf h1 ⊢
    have hlt : n < l.length := by omega
    obtain ⟨gr, cap, hg, hR, hne, hP, hb0, hl, -⟩ := rs_open h (by omega)
    rw [if_neg (by omega), Int.toNat_natCast, getD_at71 _ _ hlt]
    have q1 := (rs_cells hR n hlt).1.2.2.1
    have c1 := (blk_cell hg 1).trans rfl
    have d0 : decide ((n : Int) < 0) = false := by simp
    have p1 : (0 ≤ (n : Int)) = True := eq_true (by omega)
    have p2 : ((n : Int) < (l.length : Int)) = True := eq_true (by omega)
    have HR := Aside0.mk hR
    have HG := Aside0.mk hg
    clear hR hg h hB
    go_enter Try.func38, Try.ntmps38
    go_wp2_with (go_at_call 43; with_reducible refine hf.mono ?_; rintro e w' ⟨rfl, hb⟩; have q2 := pw_cell_below hb q1; have c2 := pw_cell_below hb c1; have f2 := (rs_cells (Kd.R_below HR.out hb) n hlt).2 2; have HB6 := Aside0.mk hb)
    go_ret
    obtain ⟨r1, r2⟩ := rs_put (Kd.R_below HR.out HB6.out) n 2 hlt (by omega) (.bool on) ⟨l[n].f0, l[n].f1, on, l[n].f3⟩ rfl
    obtain ⟨s1, s2⟩ := RS.put HS.out.base HS.out.mine hP hne (List.length_set ..) (blk_below HG.out HB6.out) r1 r2
    exact ⟨rfl, s1, below_grown (below_then HB.out HB.out.size HB6.out) r2 hb0 (Nat.le_trans HB.out.size HB6.out.size), Nat.le_trans HB6.out.size r2.size, fun k hk hS => (r2.block k (Nat.lt_of_lt_of_le hk HB6.out.size) (fun e => hS (by injection e with e; rw [e]; exact hP))).trans (HB6.out.block k hk)⟩
end Go.Proofs.Ytlmnagbfmkaglaa.CC
