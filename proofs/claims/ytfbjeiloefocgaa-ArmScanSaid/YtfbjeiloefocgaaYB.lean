import Derived.Test.YtfbjeiloefocgaaPGx2
import Derived.WalkMore
import Derived.Lib.SliceRun
import Derived.BigQuiet
import Derived.Test.YtfbjeiloefocgaaYA
import Derived.Laws.ResultCell
import Derived.Laws.Rows
/-! An arm in memory, the document's too. -/
namespace Go.Proofs.Ytfbjeiloefocgaa.CC
open Go.RowKit Go.Proofs.Ytfbjeiloefocgaa.PG Go.Proofs.YtfbjeiloefocgaaW.PrintWords Go.Proofs.YtfbjeiloefocgaaW.PrintLast Go.Proofs.YtfbjeiloefocgaaW.PrintMore
attribute [local go_sem] Oper.semAt_some
/-- What an arm has beside its requests. -/
structure Sc where
  p : Int
  per : Int
  pos : Int
  up : Bool
  mv : Int
theorem kept_below {w w' : World} (S : Nat → Prop) (h : Below w.heap.size w w') : Kept w w' S := ⟨h.size, fun k hk _ => h.block k hk⟩
theorem below_grown {B : Nat} {w0 w w2 : World} {gr : Nat} (hb : Below B w0 w) (hgr : w.grownBy w2 (some gr)) (hB : B ≤ gr) (hB2 : B ≤ w.heap.size) : Below B w0 w2 := hb.trans ⟨hgr.os, hgr.tape, hgr.output, hgr.size, fun k hk => hgr.block k (by omega) (fun e => by injection e with e; omega)⟩
/-- An arm in memory. -/
structure AS (B : Nat) (P : Nat → Prop) (w : World) (g : Nat) (s : Sc) (l : List S77) : Prop where
  base : B ≤ g
  mine : P g
  held : ∃ v, w.heap[g]? = some (.cells #[.int .u8 s.p, .int .i64 s.per, .int .i64 s.pos, .bool s.up, .int .i64 s.mv, v] 67 (0, 0)) ∧ Kd.R k77 77 w B P v l
section
variable {B : Nat} {P P' S : Nat → Prop} {w w' : World} {g : Nat} {s : Sc} {l : List S77}
theorem AS.below (h : AS B P w g s l) (hb : Below w.heap.size w w') : AS B P w' g s l := by
  obtain ⟨h1, h2, v, h3, h4⟩ := h
  exact ⟨h1, h2, v, blk_below h3 hb, Kd.R_below h4 hb⟩
theorem AS.mono (h : AS B P w g s l) (hP : ∀ k, P k → P' k) : AS B P' w g s l := by
  obtain ⟨h1, h2, v, h3, h4⟩ := h
  exact ⟨h1, hP _ h2, v, h3, Kd.R_mono h4 hP⟩
theorem AS.kept (h : AS B P w g s l) (hk : Kept w w' S) (hd : ∀ k, P k → ¬ S k) : AS B (fun k => P k ∧ k < w.heap.size) w' g s l := by
  obtain ⟨h1, h2, v, h3, h4⟩ := h
  have hlt : g < w.heap.size := blk_lt h3
  refine ⟨h1, ⟨h2, hlt⟩, v, ?_, Kd.R_mono (Kd.R_keptB h4 hk hd) (fun k hk => ⟨hk.1, hk.2.2⟩)⟩
  rw [hk.2 g hlt (hd g h2)]; exact h3
theorem AS.bound (h : AS B P w g s l) : AS B (fun k => P k ∧ k < w.heap.size) w g s l := by
  obtain ⟨h1, h2, v, h3, h4⟩ := h
  exact ⟨h1, ⟨h2, blk_lt h3⟩, v, h3, Kd.R_mono (Kd.R_bound h4) (fun k hk => ⟨hk.1, hk.2.2.1⟩)⟩
theorem AS.lower {B' : Nat} (h : AS B P w g s l) (hb : B' ≤ B) : AS B' P w g s l := by
  obtain ⟨h1, h2, v, h3, h4⟩ := h
  exact ⟨Nat.le_trans hb h1, h2, v, h3, Kd.R_lower h4 hb⟩
theorem AS.fresh {w2 : World} (h : AS B P w g s l) : AS B (fun k => P k ∨ w2.heap.size ≤ k) w g s l := h.mono (fun _ hk => .inl hk)
/-- What is told beside the requests is turned. -/
theorem AS.setc (h : AS B P w g s l) (j : Nat) (u : Value) (s' : Sc) (hs : ∀ v, (#[.int .u8 s.p, .int .i64 s.per, .int .i64 s.pos, .bool s.up, .int .i64 s.mv, v] : Array Value).setIfInBounds j u = #[.int .u8 s'.p, .int .i64 s'.per, .int .i64 s'.pos, .bool s'.up, .int .i64 s'.mv, v]) :
    AS B P (w.setCell ⟨g, j, none⟩ u) g s' l ∧ Kept w (w.setCell ⟨g, j, none⟩ u) P := by
  obtain ⟨h1, h2, v, h3, h4⟩ := h
  refine ⟨⟨h1, h2, v, ?_, Kd.R_mono (Kd.R_set h4 h3 (by simp [show k77.E = [] from rfl]) j u) (fun k hk => hk)⟩, by rw [World.size_setCell]; exact Nat.le_refl _, fun k hk hS => Below.heap_setCell _ _ _ k (fun e => hS (e ▸ h2))⟩
  rw [blk_put h3 j u rfl, hs]
end
theorem AS.new {g : Nat} {P : Nat → Prop} {s : Sc} {l' : List S77} {v v6 : Value} {w0 w w6 : World} (hB : Below w0.heap.size w0 w) (h1 : w0.heap.size ≤ g) (h2 : P g) (h3 : w.heap[g]? = some (.cells #[.int .u8 s.p, .int .i64 s.per, .int .i64 s.pos, .bool s.up, .int .i64 s.mv, v] 67 (0, 0))) (hb : Below w.heap.size w w6) (ho : Kd.R k77 77 w6 w.heap.size (fun _ => True) v6 l') :
    AS w0.heap.size (fun k => P k ∨ w.heap.size ≤ k) (w6.setCell ⟨g, 5, none⟩ v6) g s l' ∧ Below w0.heap.size w0 (w6.setCell ⟨g, 5, none⟩ v6) ∧ Kept w (w6.setCell ⟨g, 5, none⟩ v6) P := by
  have hg6 := blk_below h3 hb
  have hg7 : (w6.setCell ⟨g, 5, none⟩ v6).heap[g]? = some (.cells #[.int .u8 s.p, .int .i64 s.per, .int .i64 s.pos, .bool s.up, .int .i64 s.mv, v6] 67 (0, 0)) := blk_put hg6 5 _ rfl
  have o1 := Kd.R_set ho hg6 (by simp [show k77.E = [] from rfl]) 5 v6
  refine ⟨⟨h1, .inl h2, v6, hg7, Kd.R_lower (Kd.R_mono (Kd.R_bound o1) (fun k hk => .inr hk.2.1)) hB.size⟩, (below_then hB hB.size hb).setCell (p := ⟨g, 5, none⟩) h1 _, ?_, fun k hk hS => ?_⟩
  · rw [World.size_setCell]; exact hb.size
  · have hkg : k ≠ g := fun e => hS (e ▸ h2)
    rw [Below.heap_setCell _ _ _ k hkg]
    exact hb.block k hk
theorem as_cells {B : Nat} {P : Nat → Prop} {w : World} {gr cap m : Nat} {l : List S77} (hR : Kd.R k77 77 w B P (.slice (some ⟨gr, 0, none⟩) m cap) l) (n : Nat) (hn : n < l.length) :
    (w.cell? ⟨gr, n * 2, none⟩ = some (.int .i64 l[n].f0) ∧ w.cell? ⟨gr, n * 2 + 1, none⟩ = some (.int .i64 l[n].f1)) ∧ ∀ j, w.frozen? ⟨gr, n * 2 + j, none⟩ = false := by
  have hm := (Kd.R_reads' hR).1
  obtain ⟨c, hc, hM, hcc, hf⟩ := Kd.R_elem hR z77 (n : Int) (by omega) (by omega)
  obtain rfl := k77_openM hM
  have e : l.getD (n : Int).toNat z77 = l[n] := by rw [Int.toNat_natCast, List.getD_eq_getElem?_getD, List.getElem?_eq_getElem hn, Option.getD_some]
  have hs : k77.sz = 2 := rfl
  rw [Int.toNat_natCast, hs] at hcc hf
  rw [Int.toNat_natCast] at e
  rw [e] at hcc
  exact ⟨⟨hcc 0 _ rfl, hcc 1 _ rfl⟩, hf⟩
theorem as_open {B : Nat} {P : Nat → Prop} {w : World} {g : Nat} {s : Sc} {l : List S77} (h : AS B P w g s l) (h0 : 0 < l.length) :
    ∃ gr cap, w.heap[g]? = some (.cells #[.int .u8 s.p, .int .i64 s.per, .int .i64 s.pos, .bool s.up, .int .i64 s.mv, .slice (some ⟨gr, 0, none⟩) l.length cap] 67 (0, 0)) ∧ Kd.R k77 77 w B P (.slice (some ⟨gr, 0, none⟩) l.length cap) l ∧ g ≠ gr ∧ P gr ∧ B ≤ gr ∧ gr < w.heap.size ∧ l.length ≤ cap ∧ Kd.C k77 w (some ⟨gr, 0, none⟩) l.length l := by
  obtain ⟨h1, h2, v, h3, h4⟩ := h
  obtain ⟨gr, cap, rfl, hb, hl, _⟩ := Kd.R_form h4 h0
  have hne := Kd.R_ne h4 h3 (by decide)
  have hr := Kd.R_reads' h4
  exact ⟨gr, cap, h3, h4, fun e => hne (by simp [Value.ownBlock, e]), h4.1 gr (by simp [Value.ownBlock]), hb, hl, hr.2.1, hr.2.2⟩
/-- The age of a request is written. -/
theorem as_put {B : Nat} {P : Nat → Prop} {w : World} {gr cap m : Nat} {l : List S77} (hR : Kd.R k77 77 w B P (.slice (some ⟨gr, 0, none⟩) m cap) l) (n : Nat) (hn : n < l.length) (a : Int) :
    Kd.R k77 77 (w.setCell ⟨gr, n * 2 + 1, none⟩ (.int .i64 a)) B P (.slice (some ⟨gr, 0, none⟩) m cap) (l.set n ⟨l[n].f0, a⟩) ∧ w.grownBy (w.setCell ⟨gr, n * 2 + 1, none⟩ (.int .i64 a)) (some gr) := by
  have hm := (Kd.R_reads' hR).1
  obtain ⟨c, hc, hM, hcc, hf⟩ := Kd.R_elem hR z77 (n : Int) (by omega) (by omega)
  obtain rfl := k77_openM hM
  have e : l.getD (n : Int).toNat z77 = l[n] := by rw [Int.toNat_natCast, List.getD_eq_getElem?_getD, List.getElem?_eq_getElem hn, Option.getD_some]
  rw [e] at hcc hc
  have := Kd.R_seg (seg := [.int .i64 a]) (j := 1) (x' := ⟨l[n].f0, a⟩) (okp := fun k => P k ∧ k ≠ gr) hR (n : Int) (by omega) (by omega) hc hcc (by show 1 + 1 ≤ 2; omega) (k77_mkM _ _ _ ⟨l[n].f0, a⟩) (fun k hk => hk)
  have hs : k77.sz = 2 := rfl
  rw [Int.toNat_natCast, hs] at this
  exact this
theorem AS.put {B : Nat} {P : Nat → Prop} {w w2 : World} {g gr cap : Nat} {s : Sc} {l row2 : List S77} (h1 : B ≤ g) (h2 : P g) (hP : P gr) (hne : g ≠ gr) (_hlen : row2.length = l.length)
    (hg : w.heap[g]? = some (.cells #[.int .u8 s.p, .int .i64 s.per, .int .i64 s.pos, .bool s.up, .int .i64 s.mv, .slice (some ⟨gr, 0, none⟩) l.length cap] 67 (0, 0))) (hR : Kd.R k77 77 w2 B P (.slice (some ⟨gr, 0, none⟩) l.length cap) row2) (hgr : w.grownBy w2 (some gr)) : AS B P w2 g s row2 ∧ Kept w w2 P := by
  have hlt := blk_lt hg
  exact ⟨⟨h1, h2, _, by rw [hgr.block g hlt (fun e => hne (by injection e))]; exact hg, hR⟩, hgr.size, fun k hk hS => hgr.block k hk (fun e => hS (by injection e with e; rw [e]; exact hP))⟩
/-- Where a request is; -1: it is not. -/
def ix77 (l : List S77) (b : Int) : Int := if l.findIdx (fun x => x.f0 == b) < l.length then (l.findIdx (fun x => x.f0 == b) : Int) else -1
theorem ix77_hit {l : List S77} {b : Int} {i : Nat} (hi : i < l.length) (h : (l[i].f0 == b) = true) (hb : ∀ x ∈ l.take i, (x.f0 == b) = false) : ix77 l b = (i : Int) := by
  have e : l.findIdx (fun x => x.f0 == b) = i := (List.findIdx_eq hi).2 ⟨h, fun j hj => by
    have := hb (l[j]) (by rw [List.mem_take_iff_getElem]; exact ⟨j, by omega, rfl⟩)
    exact this⟩
  unfold ix77
  rw [e, if_pos hi]
theorem ix77_miss {l : List S77} {b : Int} (hb : ∀ x ∈ l, (x.f0 == b) = false) : ix77 l b = -1 := by
  have e : l.findIdx (fun x => x.f0 == b) = l.length := List.findIdx_eq_length.2 hb
  unfold ix77
  rw [e, if_neg (by omega)]
theorem ix77_range (l : List S77) (b : Int) : ix77 l b = -1 ∨ 0 ≤ ix77 l b ∧ ix77 l b < l.length := by
  unfold ix77
  split
  · right; omega
  · left; rfl
theorem getD77 (l : List S77) (n : Nat) (h : n < l.length) : l.getD n z77 = l[n] := by rw [List.getD_eq_getElem?_getD, List.getElem?_eq_getElem h, Option.getD_some]
theorem info77 : (Try.prog.info? 77).map (fun i => (i.zero, i.size, i.bytes)) = some (some (.agg #[.int .i64 0, .int .i64 0]), 2, 16) := by kernel_rfl
/-- The document's arm in memory. -/
structure DS (B : Nat) (P : Nat → Prop) (w : World) (g : Nat) (s : Sc) (l : List S86) : Prop where
  base : B ≤ g
  mine : P g
  held : ∃ v, w.heap[g]? = some (.cells #[.int .u8 s.p, .int .i64 s.per, .int .i64 s.pos, .bool s.up, .int .i64 s.mv, v] 70 (0, 0)) ∧ Kd.R k86 86 w B P v l
section
variable {B : Nat} {P P' S : Nat → Prop} {w w' : World} {g : Nat} {s : Sc} {l : List S86}
theorem DS.below (h : DS B P w g s l) (hb : Below w.heap.size w w') : DS B P w' g s l := by
  obtain ⟨h1, h2, v, h3, h4⟩ := h
  exact ⟨h1, h2, v, blk_below h3 hb, Kd.R_below h4 hb⟩
theorem DS.mono (h : DS B P w g s l) (hP : ∀ k, P k → P' k) : DS B P' w g s l := by
  obtain ⟨h1, h2, v, h3, h4⟩ := h
  exact ⟨h1, hP _ h2, v, h3, Kd.R_mono h4 hP⟩
theorem DS.kept (h : DS B P w g s l) (hk : Kept w w' S) (hd : ∀ k, P k → ¬ S k) : DS B (fun k => P k ∧ k < w.heap.size) w' g s l := by
  obtain ⟨h1, h2, v, h3, h4⟩ := h
  have hlt : g < w.heap.size := blk_lt h3
  refine ⟨h1, ⟨h2, hlt⟩, v, ?_, Kd.R_mono (Kd.R_keptB h4 hk hd) (fun k hk => ⟨hk.1, hk.2.2⟩)⟩
  rw [hk.2 g hlt (hd g h2)]; exact h3
theorem DS.bound (h : DS B P w g s l) : DS B (fun k => P k ∧ k < w.heap.size) w g s l := by
  obtain ⟨h1, h2, v, h3, h4⟩ := h
  exact ⟨h1, ⟨h2, blk_lt h3⟩, v, h3, Kd.R_mono (Kd.R_bound h4) (fun k hk => ⟨hk.1, hk.2.2.1⟩)⟩
theorem DS.lower {B' : Nat} (h : DS B P w g s l) (hb : B' ≤ B) : DS B' P w g s l := by
  obtain ⟨h1, h2, v, h3, h4⟩ := h
  exact ⟨Nat.le_trans hb h1, h2, v, h3, Kd.R_lower h4 hb⟩
theorem DS.fresh {w2 : World} (h : DS B P w g s l) : DS B (fun k => P k ∨ w2.heap.size ≤ k) w g s l := h.mono (fun _ hk => .inl hk)
/-- What is told beside the requests is turned. -/
theorem DS.setc (h : DS B P w g s l) (j : Nat) (u : Value) (s' : Sc) (hs : ∀ v, (#[.int .u8 s.p, .int .i64 s.per, .int .i64 s.pos, .bool s.up, .int .i64 s.mv, v] : Array Value).setIfInBounds j u = #[.int .u8 s'.p, .int .i64 s'.per, .int .i64 s'.pos, .bool s'.up, .int .i64 s'.mv, v]) :
    DS B P (w.setCell ⟨g, j, none⟩ u) g s' l ∧ Kept w (w.setCell ⟨g, j, none⟩ u) P := by
  obtain ⟨h1, h2, v, h3, h4⟩ := h
  refine ⟨⟨h1, h2, v, ?_, Kd.R_mono (Kd.R_set h4 h3 (by simp [show k86.E = [] from rfl]) j u) (fun k hk => hk)⟩, by rw [World.size_setCell]; exact Nat.le_refl _, fun k hk hS => Below.heap_setCell _ _ _ k (fun e => hS (e ▸ h2))⟩
  rw [blk_put h3 j u rfl, hs]
end
theorem DS.new {g : Nat} {P : Nat → Prop} {s : Sc} {l' : List S86} {v v6 : Value} {w0 w w6 : World} (hB : Below w0.heap.size w0 w) (h1 : w0.heap.size ≤ g) (h2 : P g) (h3 : w.heap[g]? = some (.cells #[.int .u8 s.p, .int .i64 s.per, .int .i64 s.pos, .bool s.up, .int .i64 s.mv, v] 70 (0, 0))) (hb : Below w.heap.size w w6) (ho : Kd.R k86 86 w6 w.heap.size (fun _ => True) v6 l') :
    DS w0.heap.size (fun k => P k ∨ w.heap.size ≤ k) (w6.setCell ⟨g, 5, none⟩ v6) g s l' ∧ Below w0.heap.size w0 (w6.setCell ⟨g, 5, none⟩ v6) ∧ Kept w (w6.setCell ⟨g, 5, none⟩ v6) P := by
  have hg6 := blk_below h3 hb
  have hg7 : (w6.setCell ⟨g, 5, none⟩ v6).heap[g]? = some (.cells #[.int .u8 s.p, .int .i64 s.per, .int .i64 s.pos, .bool s.up, .int .i64 s.mv, v6] 70 (0, 0)) := blk_put hg6 5 _ rfl
  have o1 := Kd.R_set ho hg6 (by simp [show k86.E = [] from rfl]) 5 v6
  refine ⟨⟨h1, .inl h2, v6, hg7, Kd.R_lower (Kd.R_mono (Kd.R_bound o1) (fun k hk => .inr hk.2.1)) hB.size⟩, (below_then hB hB.size hb).setCell (p := ⟨g, 5, none⟩) h1 _, ?_, fun k hk hS => ?_⟩
  · rw [World.size_setCell]; exact hb.size
  · have hkg : k ≠ g := fun e => hS (e ▸ h2)
    rw [Below.heap_setCell _ _ _ k hkg]
    exact hb.block k hk
theorem ds_cells {B : Nat} {P : Nat → Prop} {w : World} {gr cap m : Nat} {l : List S86} (hR : Kd.R k86 86 w B P (.slice (some ⟨gr, 0, none⟩) m cap) l) (n : Nat) (hn : n < l.length) :
    (w.cell? ⟨gr, n * 2, none⟩ = some (.int .i64 l[n].f0) ∧ w.cell? ⟨gr, n * 2 + 1, none⟩ = some (.int .i64 l[n].f1)) ∧ ∀ j, w.frozen? ⟨gr, n * 2 + j, none⟩ = false := by
  have hm := (Kd.R_reads' hR).1
  obtain ⟨c, hc, hM, hcc, hf⟩ := Kd.R_elem hR z86 (n : Int) (by omega) (by omega)
  obtain rfl := k86_openM hM
  have e : l.getD (n : Int).toNat z86 = l[n] := by rw [Int.toNat_natCast, List.getD_eq_getElem?_getD, List.getElem?_eq_getElem hn, Option.getD_some]
  have hs : k86.sz = 2 := rfl
  rw [Int.toNat_natCast, hs] at hcc hf
  rw [Int.toNat_natCast] at e
  rw [e] at hcc
  exact ⟨⟨hcc 0 _ rfl, hcc 1 _ rfl⟩, hf⟩
theorem ds_open {B : Nat} {P : Nat → Prop} {w : World} {g : Nat} {s : Sc} {l : List S86} (h : DS B P w g s l) (h0 : 0 < l.length) :
    ∃ gr cap, w.heap[g]? = some (.cells #[.int .u8 s.p, .int .i64 s.per, .int .i64 s.pos, .bool s.up, .int .i64 s.mv, .slice (some ⟨gr, 0, none⟩) l.length cap] 70 (0, 0)) ∧ Kd.R k86 86 w B P (.slice (some ⟨gr, 0, none⟩) l.length cap) l ∧ g ≠ gr ∧ P gr ∧ B ≤ gr ∧ gr < w.heap.size ∧ l.length ≤ cap ∧ Kd.C k86 w (some ⟨gr, 0, none⟩) l.length l := by
  obtain ⟨h1, h2, v, h3, h4⟩ := h
  obtain ⟨gr, cap, rfl, hb, hl, _⟩ := Kd.R_form h4 h0
  have hne := Kd.R_ne h4 h3 (by decide)
  have hr := Kd.R_reads' h4
  exact ⟨gr, cap, h3, h4, fun e => hne (by simp [Value.ownBlock, e]), h4.1 gr (by simp [Value.ownBlock]), hb, hl, hr.2.1, hr.2.2⟩
/-- The age of a request is written. -/
theorem ds_put {B : Nat} {P : Nat → Prop} {w : World} {gr cap m : Nat} {l : List S86} (hR : Kd.R k86 86 w B P (.slice (some ⟨gr, 0, none⟩) m cap) l) (n : Nat) (hn : n < l.length) (a : Int) :
    Kd.R k86 86 (w.setCell ⟨gr, n * 2 + 1, none⟩ (.int .i64 a)) B P (.slice (some ⟨gr, 0, none⟩) m cap) (l.set n ⟨l[n].f0, a⟩) ∧ w.grownBy (w.setCell ⟨gr, n * 2 + 1, none⟩ (.int .i64 a)) (some gr) := by
  have hm := (Kd.R_reads' hR).1
  obtain ⟨c, hc, hM, hcc, hf⟩ := Kd.R_elem hR z86 (n : Int) (by omega) (by omega)
  obtain rfl := k86_openM hM
  have e : l.getD (n : Int).toNat z86 = l[n] := by rw [Int.toNat_natCast, List.getD_eq_getElem?_getD, List.getElem?_eq_getElem hn, Option.getD_some]
  rw [e] at hcc hc
  have := Kd.R_seg (seg := [.int .i64 a]) (j := 1) (x' := ⟨l[n].f0, a⟩) (okp := fun k => P k ∧ k ≠ gr) hR (n : Int) (by omega) (by omega) hc hcc (by show 1 + 1 ≤ 2; omega) (k86_mkM _ _ _ ⟨l[n].f0, a⟩) (fun k hk => hk)
  have hs : k86.sz = 2 := rfl
  rw [Int.toNat_natCast, hs] at this
  exact this
theorem DS.put {B : Nat} {P : Nat → Prop} {w w2 : World} {g gr cap : Nat} {s : Sc} {l row2 : List S86} (h1 : B ≤ g) (h2 : P g) (hP : P gr) (hne : g ≠ gr) (_hlen : row2.length = l.length)
    (hg : w.heap[g]? = some (.cells #[.int .u8 s.p, .int .i64 s.per, .int .i64 s.pos, .bool s.up, .int .i64 s.mv, .slice (some ⟨gr, 0, none⟩) l.length cap] 70 (0, 0))) (hR : Kd.R k86 86 w2 B P (.slice (some ⟨gr, 0, none⟩) l.length cap) row2) (hgr : w.grownBy w2 (some gr)) : DS B P w2 g s row2 ∧ Kept w w2 P := by
  have hlt := blk_lt hg
  exact ⟨⟨h1, h2, _, by rw [hgr.block g hlt (fun e => hne (by injection e))]; exact hg, hR⟩, hgr.size, fun k hk hS => hgr.block k hk (fun e => hS (by injection e with e; rw [e]; exact hP))⟩
/-- Where a request is; -1: it is not. -/
def ix86 (l : List S86) (b : Int) : Int := if l.findIdx (fun x => x.f0 == b) < l.length then (l.findIdx (fun x => x.f0 == b) : Int) else -1
theorem ix86_hit {l : List S86} {b : Int} {i : Nat} (hi : i < l.length) (h : (l[i].f0 == b) = true) (hb : ∀ x ∈ l.take i, (x.f0 == b) = false) : ix86 l b = (i : Int) := by
  have e : l.findIdx (fun x => x.f0 == b) = i := (List.findIdx_eq hi).2 ⟨h, fun j hj => by
    have := hb (l[j]) (by rw [List.mem_take_iff_getElem]; exact ⟨j, by omega, rfl⟩)
    exact this⟩
  unfold ix86
  rw [e, if_pos hi]
theorem ix86_miss {l : List S86} {b : Int} (hb : ∀ x ∈ l, (x.f0 == b) = false) : ix86 l b = -1 := by
  have e : l.findIdx (fun x => x.f0 == b) = l.length := List.findIdx_eq_length.2 hb
  unfold ix86
  rw [e, if_neg (by omega)]
theorem ix86_range (l : List S86) (b : Int) : ix86 l b = -1 ∨ 0 ≤ ix86 l b ∧ ix86 l b < l.length := by
  unfold ix86
  split
  · right; omega
  · left; rfl
theorem getD86 (l : List S86) (n : Nat) (h : n < l.length) : l.getD n z86 = l[n] := by rw [List.getD_eq_getElem?_getD, List.getElem?_eq_getElem h, Option.getD_some]
theorem info86 : (Try.prog.info? 86).map (fun i => (i.zero, i.size, i.bytes)) = some (some (.agg #[.int .i64 0, .int .i64 0]), 2, 16) := by kernel_rfl
end Go.Proofs.Ytfbjeiloefocgaa.CC
/-! Contracts of the package arm: New, find. -/
namespace Go.Proofs.Ytfbjeiloefocgaa.CC
open Go.RowKit Go.Proofs.Ytfbjeiloefocgaa.PG Go.Proofs.YtfbjeiloefocgaaW.PrintWords Go.Proofs.YtfbjeiloefocgaaW.PrintLast Go.Proofs.YtfbjeiloefocgaaW.PrintMore
attribute [local go_sem] Oper.semAt_some

/-- A policy and a track that may be. -/
def okN (p per : Int) : Prop := 1 ≤ p ∧ p ≤ 4 ∧ 1 ≤ per ∧ per ≤ 64
theorem New_ok (p per : Int) (h : okN p per) (w : World) : Calls Try.prog 32 #[.int .u8 p, .int .i64 per] w fun e w' => (∃ g, e = .returned (.pointer (some ⟨g, 0, none⟩)) ∧ AS w.heap.size (fun k => w.heap.size ≤ k) w' g ⟨p, per, 0, true, 0⟩ []) ∧ Below w.heap.size w w' := by
  obtain ⟨h1, h2, h3, h4⟩ := h
  have d1 : decide (p < 1) = false := by simp; omega
  have d2 : decide (4 < p) = false := by simp; omega
  have d3 : decide (per < 1) = false := by simp; omega
  have d4 : decide (64 < per) = false := by simp; omega
  go_enter Try.func32, Try.ntmps32
  go_wp2_with (first | ((with_reducible refine gate_dst (N := 22) rfl ?_); refine box_event ?hg (N := 22) ?hd (cs := #[.int .u8 p, .int .i64 per, .int .i64 0, .bool true, .int .i64 0, .slice none 0 0]) (t := 67) ?hr ?_; (case hd => rfl); (case hg => rfl); (case hr => first | (go_simp; done) | (go_simp; rfl)); intro gb hgb w5 hbox hb; have HBgb := Aside0.mk hb; have HXgb := Aside0.mk hbox; have HIgb := Aside0.mk hgb; clear hb hbox hgb))
  go_ret
  have hgb := HIgb.out
  exact ⟨⟨gb, rfl, by omega, by omega, _, HXgb.out, Kd.R_nil _ _ _ _ _⟩, HBgb.out⟩
theorem New_no (p per : Int) (h : ¬ okN p per) (w : World) : Calls Try.prog 32 #[.int .u8 p, .int .i64 per] w fun e w' => e = .returned (.pointer none) ∧ Below w.heap.size w w' := by
  unfold okN at h
  by_cases h1 : p < 1
  · have d1 : decide (p < 1) = true := by simpa using h1
    go_enter Try.func32, Try.ntmps32
    go_wp2
    go_ret
    exact ⟨rfl, Below.refl _ _⟩
  · have d1 : decide (p < 1) = false := by simpa using h1
    by_cases h2 : 4 < p
    · have d2 : decide (4 < p) = true := by simpa using h2
      go_enter Try.func32, Try.ntmps32
      go_wp2
      go_ret
      exact ⟨rfl, Below.refl _ _⟩
    · have d2 : decide (4 < p) = false := by simpa using h2
      by_cases h3 : per < 1
      · have d3 : decide (per < 1) = true := by simpa using h3
        go_enter Try.func32, Try.ntmps32
        go_wp2
        go_ret
        exact ⟨rfl, Below.refl _ _⟩
      · have d3 : decide (per < 1) = false := by simpa using h3
        have d4 : decide (64 < per) = true := by simp; omega
        go_enter Try.func32, Try.ntmps32
        go_wp2
        go_ret
        exact ⟨rfl, Below.refl _ _⟩
theorem is_calls (x : S77) (q : Nat) (b : Int) (w : World) (hq : w.cell? ⟨q, 0, none⟩ = some (.int .i64 b)) :
    Calls Try.prog 69 #[.agg #[.int .i64 x.f0, .int .i64 x.f1], .pointer (some ⟨q, 0, none⟩)] w fun e w' => e = .returned (.bool (x.f0 == b)) ∧ Below w.heap.size w w' := by
  have HQ := Aside0.mk hq
  clear hq
  go_enter Try.func69, Try.ntmps69
  go_upto_region 1 with (first | ((with_reducible refine gate_dst (N := 2) rfl ?_); refine box_event ?hg (N := 2) ?hd (cs := #[.int .i64 x.f0, .int .i64 x.f1]) (t := 77) ?hr ?_; (case hd => rfl); (case hg => rfl); (case hr => first | (go_simp; done) | (go_simp; rfl)); intro gb hgb w5 hbox hb; have HBgb := Aside0.mk hb; have HXgb := Aside0.mk hbox; have HIgb := Aside0.mk hgb; clear hb hbox hgb))
  have q0 : w5.cell? ⟨gb, 0, none⟩ = some (.int .i64 x.f0) := (blk_cell HXgb.out 0).trans rfl
  have q1 : w5.cell? ⟨q, 0, none⟩ = some (.int .i64 b) := pw_cell_below HBgb.out HQ.out
  go_wp2
  go_ret
  exact ⟨rfl, HBgb.out⟩
def oldB (x : S77) : Bool := decide (12 ≤ x.f1)
theorem old_calls (x : S77) (w : World) :
    Calls Try.prog 41 #[.agg #[.int .i64 x.f0, .int .i64 x.f1]] w fun e w' => e = .returned (.bool (oldB x)) ∧ Below w.heap.size w w' := by
  go_enter Try.func41, Try.ntmps41
  go_upto_region 1 with (first | ((with_reducible refine gate_dst (N := 1) rfl ?_); refine box_event ?hg (N := 1) ?hd (cs := #[.int .i64 x.f0, .int .i64 x.f1]) (t := 77) ?hr ?_; (case hd => rfl); (case hg => rfl); (case hr => first | (go_simp; done) | (go_simp; rfl)); intro gb hgb w5 hbox hb; have HBgb := Aside0.mk hb; have HXgb := Aside0.mk hbox; have HIgb := Aside0.mk hgb; clear hb hbox hgb))
  have q1 : w5.cell? ⟨gb, 1, none⟩ = some (.int .i64 x.f1) := (blk_cell HXgb.out 1).trans rfl
  go_wp2
  go_ret
  exact ⟨rfl, HBgb.out⟩
/-- Where the first one is that waited too long; -1: there is none. -/
def oldix (l : List S77) : Int := if l.findIdx oldB < l.length then (l.findIdx oldB : Int) else -1
theorem oldix_hit {l : List S77} {i : Nat} (hi : i < l.length) (h : oldB l[i] = true) (hb : ∀ x ∈ l.take i, oldB x = false) : oldix l = (i : Int) := by
  have e : l.findIdx oldB = i := (List.findIdx_eq hi).2 ⟨h, fun j hj => by
    have := hb (l[j]) (by rw [List.mem_take_iff_getElem]; exact ⟨j, by omega, rfl⟩)
    exact this⟩
  unfold oldix
  rw [e, if_pos hi]
theorem oldix_miss {l : List S77} (hb : ∀ x ∈ l, oldB x = false) : oldix l = -1 := by
  have e : l.findIdx oldB = l.length := List.findIdx_eq_length.2 hb
  unfold oldix
  rw [e, if_neg (by omega)]
set_option maxRecDepth 100000 in
set_option maxHeartbeats 1000000 in
theorem idx_calls (A : Option Addr) (c : Nat) (l : List S77) (q : Nat) (b : Int) (w : World) (hC : Kd.C k77 w A l.length l) (hq : w.cell? ⟨q, 0, none⟩ = some (.int .i64 b)) (hn : l.length < 140737488355328) :
    Calls Try.prog 40 #[.slice A l.length c, .func (.func 69) #[] #[.pointer (some ⟨q, 0, none⟩)]] w fun e w' => e = .returned (.int .i64 (ix77 l b)) ∧ Below w.heap.size w w' := by
  have HC := Aside0.mk hC
  have HQ := Aside0.mk hq
  clear hq
  clear hC
  go_enter Try.func40, Try.ntmps40
  go_wp2
  go_loopg [8] l.length (fun kq v8 w' => ∃ i : Nat, i + kq = l.length ∧ v8 = .int .i64 (i : Int) ∧ Aside0 (∀ x ∈ l.take i, (x.f0 == b) = false) ∧ Aside0 (Below w.heap.size w w'))
  case atStart => exact ⟨0, by simp, rfl, ⟨by simp⟩, ⟨Below.refl _ _⟩⟩
  case round =>
    obtain ⟨i, hi, rfl, hA, HB⟩ := hrel
    cases gk with
    | zero =>
      obtain rfl : i = l.length := by omega
      have hA' := hA.out
      rw [List.take_length] at hA'
      clear hA
      go_wp2
      go_ret
      exact ⟨by rw [ix77_miss hA']; rfl, HB.out⟩
    | succ k1 =>
      have hlt : i < l.length := by omega
      have c0 : decide ((i : Int) < (l.length : Int)) = true := by simp; omega
      have p123 : 0 ≤ (i : Int) := by omega
      have q123 : (i : Int) < (l.length : Int) := by omega
      obtain ⟨ad, e, hx0, hx1⟩ := at_T77 (Kd.C_below HC.out HB.out) (i : Int) p123 q123
      cases e
      have hrd : rd_T77 l (i : Int) = l[i] := by simp [rd_T77, List.getD_eq_getElem?_getD, hlt]
      rw [hrd] at hx0 hx1
      obtain ⟨x, hx⟩ : ∃ x, l[i] = x := ⟨_, rfl⟩
      rw [hx] at hx0 hx1
      rw [Int.toNat_natCast] at hx0 hx1
      have hw : wrap64 ((i : Int) + 1) = ((i + 1 : Nat) : Int) := by unfold wrap64; omega
      replace p123 := eq_true p123
      replace q123 := eq_true q123
      have hq' := pw_cell_below HB.out HQ.out
      cases hb : (x.f0 == b) with
      | true =>
        go_wp2_with (go_at_call 69; with_reducible refine (is_calls x q b _ hq').mono ?_; rw [hb]; rintro e w' ⟨rfl, hb2⟩)
        go_ret
        exact ⟨by rw [ix77_hit hlt (by rw [hx]; exact hb) hA.out]; rfl, below_step HB.out hb2⟩
      | false =>
        go_wp2_with (go_at_call 69; with_reducible refine (is_calls x q b _ hq').mono ?_; rw [hb]; rintro e w' ⟨rfl, hb2⟩)
        go_roundg k1
        case rel => exact ⟨i + 1, by omega, by rw [Int.natCast_add]; rfl, ⟨fun y hy => by
          rw [List.take_succ_eq_append_getElem hlt, List.mem_append, List.mem_singleton, hx] at hy
          rcases hy with hy | rfl
          · exact hA.out y hy
          · exact hb⟩, ⟨below_step HB.out hb2⟩⟩
        all_goals omega
set_option maxRecDepth 100000 in
set_option maxHeartbeats 1000000 in
theorem idxold_calls (A : Option Addr) (c : Nat) (l : List S77) (w : World) (hC : Kd.C k77 w A l.length l) (hn : l.length < 140737488355328) :
    Calls Try.prog 40 #[.slice A l.length c, .func (.func 41) #[] #[]] w fun e w' => e = .returned (.int .i64 (oldix l)) ∧ Below w.heap.size w w' := by
  have HC := Aside0.mk hC
  clear hC
  go_enter Try.func40, Try.ntmps40
  go_wp2
  go_loopg [8] l.length (fun kq v8 w' => ∃ i : Nat, i + kq = l.length ∧ v8 = .int .i64 (i : Int) ∧ Aside0 (∀ x ∈ l.take i, oldB x = false) ∧ Aside0 (Below w.heap.size w w'))
  case atStart => exact ⟨0, by simp, rfl, ⟨by simp⟩, ⟨Below.refl _ _⟩⟩
  case round =>
    obtain ⟨i, hi, rfl, hA, HB⟩ := hrel
    cases gk with
    | zero =>
      obtain rfl : i = l.length := by omega
      have hA' := hA.out
      rw [List.take_length] at hA'
      clear hA
      go_wp2
      go_ret
      exact ⟨by rw [oldix_miss hA']; rfl, HB.out⟩
    | succ k1 =>
      have hlt : i < l.length := by omega
      have c0 : decide ((i : Int) < (l.length : Int)) = true := by simp; omega
      have p123 : 0 ≤ (i : Int) := by omega
      have q123 : (i : Int) < (l.length : Int) := by omega
      obtain ⟨ad, e, hx0, hx1⟩ := at_T77 (Kd.C_below HC.out HB.out) (i : Int) p123 q123
      cases e
      have hrd : rd_T77 l (i : Int) = l[i] := by simp [rd_T77, List.getD_eq_getElem?_getD, hlt]
      rw [hrd] at hx0 hx1
      obtain ⟨x, hx⟩ : ∃ x, l[i] = x := ⟨_, rfl⟩
      rw [hx] at hx0 hx1
      rw [Int.toNat_natCast] at hx0 hx1
      have hw : wrap64 ((i : Int) + 1) = ((i + 1 : Nat) : Int) := by unfold wrap64; omega
      replace p123 := eq_true p123
      replace q123 := eq_true q123
      cases hb : oldB x with
      | true =>
        go_wp2_with (go_at_call 41; with_reducible refine (old_calls x _).mono ?_; rw [hb]; rintro e w' ⟨rfl, hb2⟩)
        go_ret
        exact ⟨by rw [oldix_hit hlt (by rw [hx]; exact hb) hA.out]; rfl, below_step HB.out hb2⟩
      | false =>
        go_wp2_with (go_at_call 41; with_reducible refine (old_calls x _).mono ?_; rw [hb]; rintro e w' ⟨rfl, hb2⟩)
        go_roundg k1
        case rel => exact ⟨i + 1, by omega, by rw [Int.natCast_add]; rfl, ⟨fun y hy => by
          rw [List.take_succ_eq_append_getElem hlt, List.mem_append, List.mem_singleton, hx] at hy
          rcases hy with hy | rfl
          · exact hA.out y hy
          · exact hb⟩, ⟨below_step HB.out hb2⟩⟩
        all_goals omega
theorem find_nil (b : Int) (w : World) : Calls Try.prog 44 #[.pointer none, .int .i64 b] w fun e w' => e = .returned (.int .i64 (-1)) ∧ Below w.heap.size w w' := by
  have HB := Aside0.mk (Below.refl w.heap.size w)
  go_enter Try.func44, Try.ntmps44
  go_wp2
  go_ret
  exact ⟨rfl, below_alloc HB.out _⟩
theorem find_calls {B : Nat} {P : Nat → Prop} {w : World} {g : Nat} {s : Sc} {l : List S77} (b : Int) (h : AS B P w g s l) (hn : l.length < 1000) :
    Calls Try.prog 44 #[.pointer (some ⟨g, 0, none⟩), .int .i64 b] w fun e w' => e = .returned (.int .i64 (ix77 l b)) ∧ Below w.heap.size w w' := by
  obtain ⟨-, -, v, hg, hR⟩ := h
  obtain ⟨A, c, rfl, -, hC⟩ := Kd.R_reads hR
  have HG := Aside0.mk hg
  have HC := Aside0.mk hC
  clear hg hC hR
  go_enter Try.func44, Try.ntmps44
  go_upto_region 3 with (first | ((with_reducible refine gate_dst (N := 3) rfl ?_); refine box_event ?hg (N := 3) ?hd (cs := #[.int .i64 b]) (t := 3) ?hr ?_; (case hd => rfl); (case hg => rfl); (case hr => first | (go_simp; done) | (go_simp; rfl)); intro gb hgb w5 hbox hb; have HBgb := Aside0.mk hb; have HXgb := Aside0.mk hbox; have HIgb := Aside0.mk hgb; clear hb hbox hgb))
  have c5 : w5.cell? ⟨g, 5, none⟩ = some (.slice A l.length c) := pw_cell_below HBgb.out ((blk_cell HG.out 5).trans rfl)
  have cq : w5.cell? ⟨gb, 0, none⟩ = some (.int .i64 b) := (blk_cell HXgb.out 0).trans rfl
  have hf := idx_calls A c l gb b w5 (Kd.C_below HC.out HBgb.out) cq (by omega)
  go_wp2_with (go_at_call 40; with_reducible refine hf.mono ?_; rintro e w6 ⟨rfl, hb6⟩)
  go_ret
  exact ⟨rfl, below_step HBgb.out hb6⟩
end Go.Proofs.Ytfbjeiloefocgaa.CC
/-! Contracts of the package arm: Delete, Ask, Cancel, Set, and what it tells. -/
namespace Go.Proofs.Ytfbjeiloefocgaa.CC
open Go.RowKit Go.Proofs.Ytfbjeiloefocgaa.PG Go.Proofs.YtfbjeiloefocgaaW.PrintWords Go.Proofs.YtfbjeiloefocgaaW.PrintLast Go.Proofs.YtfbjeiloefocgaaW.PrintMore
attribute [local go_sem] Oper.semAt_some

/-- What is written behind a row leaves it. -/
theorem tail_put {B : Nat} {P : Nat → Prop} {w : World} {gr cap m : Nat} {l : List S77} (hR : Kd.R k77 77 w B P (.slice (some ⟨gr, 0, none⟩) m cap) l) (j : Nat) (hj : l.length * 2 ≤ j) (hc : j < cap * 2) (u : Value) :
    Kd.R k77 77 (w.setCell ⟨gr, j, none⟩ u) B P (.slice (some ⟨gr, 0, none⟩) m cap) l ∧ w.grownBy (w.setCell ⟨gr, j, none⟩ u) (some gr) ∧ (w.cell? ⟨gr, j, none⟩).isSome = true ∧ w.frozen? ⟨gr, j, none⟩ = false := by
  obtain ⟨hok, inner, hown, hr⟩ := hR
  rcases hown.2 with ⟨hv, _⟩ | ⟨g', cap', cur, hv, hb, hh, hn, hcm, hcs, htake⟩
  · cases hv
  injection hv with ha hm hcc
  injection ha with ha
  injection ha with hg
  subst hg; subst hcc; subst hm
  have hsz : cur.size = cap * 2 := hcs
  refine ⟨⟨hok, inner, ⟨hown.1, .inr ⟨gr, cap, _, rfl, hb, blk_put hh j u rfl, hn, hcm, by rw [Array.size_setIfInBounds]; exact hcs, ?_⟩⟩, hr.imp_ (fun p c hp => by obtain rfl := k77_openM hp; exact k77_mkM _ _ _ p)⟩, ?_, ?_, blk_frozen hh j⟩
  · rw [Array.toList_setIfInBounds, List.take_set_of_le (show l.length * k77.sz ≤ j from hj)]
    exact htake
  · exact ⟨rfl, rfl, rfl, by rw [World.size_setCell]; exact Nat.le_refl _, fun k _ hne => Below.heap_setCell _ _ _ k (fun e => hne (by rw [e]))⟩
  · rw [(blk_cell hh j), Array.getElem?_eq_getElem (by omega)]
    rfl
theorem zero77 (w : World) : (zeroValue 77).run Try.prog w = .ok (.agg #[.int .i64 0, .int .i64 0]) w := by kernel_rfl
theorem run_clear77 (w : World) (ty : TypeId) (b o c : Nat) (hc : ∀ j, j < 2 → (w.cell? ⟨b, o + j, none⟩).isSome = true) (hf : ∀ j, j < 2 → w.frozen? ⟨b, o + j, none⟩ = false) :
    (Builtin.clear_ #[65] ty #[.slice (some ⟨b, o, none⟩) 1 c]).run Try.prog w = .ok (.tuple #[]) ((w.setCell ⟨b, o, none⟩ (.int .i64 0)).setCell ⟨b, o + 1, none⟩ (.int .i64 0)) := by
  have hst := run_storeCells_cells (P := Try.prog) b o [.int .i64 0, .int .i64 0] 0 w (by simpa using hc) (by simpa using hf) (by intro v hv; simp only [List.mem_cons, List.not_mem_nil, or_false] at hv; rcases hv with rfl | rfl <;> rfl)
  simp only [Nat.add_zero] at hst
  have hz : (Builtin.zeroCells #[.int .i64 0, .int .i64 0] 1).toList = [.int .i64 0, .int .i64 0] := by simp [Builtin.zeroCells, List.range_succ]
  simp [Builtin.clear_, run_underlying Try.underlying65, hz, hst, Value.cells, World.setCells]
theorem clear_tail {B : Nat} {P : Nat → Prop} {w : World} {gr cap m : Nat} {l : List S77} (hR : Kd.R k77 77 w B P (.slice (some ⟨gr, 0, none⟩) m cap) l) (c : Nat) (hc : l.length < cap) (ty : TypeId) :
    ∃ w2, (Builtin.clear_ #[65] ty #[.slice (some ⟨gr, l.length * 2, none⟩) 1 c]).run Try.prog w = .ok (.tuple #[]) w2 ∧ Kd.R k77 77 w2 B P (.slice (some ⟨gr, 0, none⟩) m cap) l ∧ w.grownBy w2 (some gr) := by
  obtain ⟨r1, r2, r3, r4⟩ := tail_put hR (l.length * 2) (Nat.le_refl _) (by omega) (.int .i64 0)
  obtain ⟨q1, q2, q3, q4⟩ := tail_put r1 (l.length * 2 + 1) (by omega) (by omega) (.int .i64 0)
  obtain ⟨p1, p2, p3, p4⟩ := tail_put hR (l.length * 2 + 1) (by omega) (by omega) (.int .i64 0)
  refine ⟨_, run_clear77 w ty gr (l.length * 2) c (fun j hj => ?_) (fun j hj => ?_), q1, ?_⟩
  · rcases (show j = 0 ∨ j = 1 by omega) with rfl | rfl
    · exact r3
    · exact p3
  · rcases (show j = 0 ∨ j = 1 by omega) with rfl | rfl
    · exact r4
    · exact p4
  · exact ⟨q2.os.trans r2.os, q2.tape.trans r2.tape, q2.output.trans r2.output, Nat.le_trans r2.size q2.size, fun k hk hne => (q2.block k (Nat.lt_of_lt_of_le hk r2.size) hne).trans (r2.block k hk hne)⟩
theorem size77 : (Try.prog.info? 77).map (·.size) = some k77.sz := by kernel_rfl
def Del_T5 : Bool × List (List Nat × List Nat) := (true, [([], []), ([], []), ([0, 1], [0, 1]), ([], []), ([], []), ([3, 4], [3, 4]), ([2, 5], [2, 5]), ([6, 6, 0, 1, 2, 3, 4, 5, 6], [0, 3, 6])])
def Del_B5 : List Nat := [0, 0, 3, 0, 0, 24, 63, 127]
theorem Del_tab5 : rtab .any (opsOf Try.f53 5) = Del_T5 := by kernel_rfl
theorem Del_bits5 : waitsOk Del_T5.2 Del_B5 = true := by kernel_rfl
set_option maxRecDepth 100000 in
set_option maxHeartbeats 2000000 in
theorem Delete_calls (gr cap : Nat) (l : List S77) (P : Nat → Prop) (n : Nat) (w0 w : World) (hB : Below w0.heap.size w0 w) (hR : Kd.R k77 77 w w0.heap.size P (.slice (some ⟨gr, 0, none⟩) l.length cap) l) (hn : l.length < 1000) (hlt : n < l.length) :
    Calls Try.prog 53 #[.slice (some ⟨gr, 0, none⟩) l.length cap, .int .i64 (n : Int), .int .i64 ((n + 1 : Nat) : Int)] w fun e w' => e = .returned (.slice (some ⟨gr, 0, none⟩) (l.length - 1) cap) ∧ Kd.R k77 77 w' w0.heap.size P (.slice (some ⟨gr, 0, none⟩) (l.length - 1) cap) (l.eraseIdx n) ∧ Below w0.heap.size w0 w' ∧ Kept w w' (fun k => k = gr) := by
  have hcap := (Kd.R_reads' hR).2.1
  have hgr0 : w0.heap.size ≤ gr := Kd.R_base hR gr (by simp [Value.ownBlock])
  obtain ⟨n1, hn1⟩ : ∃ n1, n + 1 = n1 := ⟨_, rfl⟩
  obtain ⟨m, hm⟩ : ∃ m, l.length - 1 = m := ⟨_, rfl⟩
  have hel : (l.eraseIdx n).length = m := by rw [List.length_eraseIdx, if_pos hlt, hm]
  have HB := Aside0.mk hB
  have HR := Aside0.mk hR
  have HEL := Aside0.mk hel
  rw [hn1]
  have p1 : (0 ≤ (n : Int)) = True := eq_true (by omega)
  have p2 : ((n : Int) ≤ (n1 : Int)) = True := eq_true (by omega)
  have p3 : ((n1 : Int) ≤ (l.length : Int)) = True := eq_true (by omega)
  have p4 : ((l.length : Int) ≤ (cap : Int)) = True := eq_true (by omega)
  have p5 : ((n : Int) ≤ (cap : Int)) = True := eq_true (by omega)
  have p6 : (0 ≤ (n1 : Int)) = True := eq_true (by omega)
  have p7 : ((m : Int) ≤ (l.length : Int)) = True := eq_true (by omega)
  have p8 : (0 ≤ (m : Int)) = True := eq_true (by omega)
  have p9 : ((n1 : Int) ≤ (cap : Int)) = True := eq_true (by omega)
  have d1 : ((n : Int) == (n1 : Int)) = false := by simp; omega
  have hcm : ¬ (cap = m) := by omega
  have hlm : l.length - m = 1 := by omega
  clear hB hR hel
  go_enter Try.func53, Try.ntmps53
  go_upto_region 5 with (fail)
  refine start_ (n := 8) (S := fun w' => True) (ds := [6]) #[false, false, false, false, false, false, false, false] (by kernel_rfl) rfl rfl trivial (fun hHeld => ?_); refine with_tabW Del_tab5 Del_bits5 (fun HT_ HW_ => ?_)
  refine pure_ (i := 0) (N := some 20) (v := ?_) (a' := ?_) #[true, false, false, false, false, false, false, false] rfl rfl (any_of HT_.out (by kernel_rfl)) (fun _ _ _ h => h) (Or.inl ⟨by rfl, ?_⟩) ?_ ?_
  rotate_left
  · intro w'
    go_simp
    with_reducible rfl
  rotate_left
  · simp only [Act.put, List.setIfInBounds_toArray, List.set_cons_zero, List.set_cons_succ]
    rfl
  refine pure_ (i := 1) (N := some 21) (v := ?_) (a' := ?_) #[true, true, false, false, false, false, false, false] rfl rfl (any_of HT_.out (by kernel_rfl)) (fun _ _ _ h => h) (Or.inl ⟨by rfl, ?_⟩) ?_ ?_
  rotate_left
  · intro w'
    go_simp
    with_reducible rfl
  rotate_left
  · simp only [Act.put, List.setIfInBounds_toArray, List.set_cons_zero, List.set_cons_succ]
    rfl
  refine pure_ (i := 2) (N := some 22) (v := ?_) (a' := ?_) #[true, true, true, false, false, false, false, false] rfl rfl (any_of HT_.out (by kernel_rfl)) (fun _ _ _ h => h) (Or.inl ⟨by rfl, ?_⟩) ?_ ?_
  rotate_left
  · intro w'
    go_simp
    with_reducible rfl
  rotate_left
  · simp only [Act.put, List.setIfInBounds_toArray, List.set_cons_zero, List.set_cons_succ]
    rfl
  refine pure_ (i := 3) (N := some 23) (v := ?_) (a' := ?_) #[true, true, true, true, false, false, false, false] rfl rfl (any_of HT_.out (by kernel_rfl)) (fun _ _ _ h => h) (Or.inl ⟨by rfl, ?_⟩) ?_ ?_
  rotate_left
  · intro w'
    go_simp
    with_reducible rfl
  rotate_left
  · simp only [Act.put, List.setIfInBounds_toArray, List.set_cons_zero, List.set_cons_succ]
    rfl
  refine pure_ (i := 4) (N := some 24) (v := ?_) (a' := ?_) #[true, true, true, true, true, false, false, false] rfl rfl (any_of HT_.out (by kernel_rfl)) (fun _ _ _ h => h) (Or.inl ⟨by rfl, ?_⟩) ?_ ?_
  rotate_left
  · intro w'
    go_simp
    with_reducible rfl
  rotate_left
  · simp only [Act.put, List.setIfInBounds_toArray, List.set_cons_zero, List.set_cons_succ]
    rfl
  refine pure_ (i := 5) (N := some 25) (v := ?_) (a' := ?_) #[true, true, true, true, true, true, false, false] rfl rfl (any_of HT_.out (by kernel_rfl)) (fun _ _ _ h => h) (Or.inl ⟨by rfl, ?_⟩) ?_ ?_
  rotate_left
  · intro w'
    go_simp
    with_reducible rfl
  rotate_left
  · simp only [Act.put, List.setIfInBounds_toArray, List.set_cons_zero, List.set_cons_succ]
    rfl
  refine last_ (i := 6) (N := some 26) #[true, true, true, true, true, true, true, false] rfl rfl (one_of HT_.out (by kernel_rfl)) (by decide) (fun K hK => ?_)
  generalize hA1 : (if cap = n1 then (some ⟨gr, 0, none⟩ : Option Addr) else some ⟨gr, n1 * 2, none⟩) = A9
  refine Kd.R_delete_step k77 (w0 := w0) w0.heap.size (by rfl) (.tmp 22) (.tmp 25) 65 77 rfl Try.underlying65 size77 (g := gr) (n := l.length) (c := cap) (k := n) (A := A9) (by rfl) (by rfl) (by rw [← hA1, ← hn1]; split <;> simp [add_plain, show k77.sz = 2 from rfl]) (by omega) (Kd.R_drew HR.out) hlt (below_drew HB.out) (Nat.le_trans HB.out.size (Nat.le_refl _)) ?_
  intro w5 hr5 hb5 hg5
  have HR5 := Aside0.mk hr5
  have HB5 := Aside0.mk hb5
  have HG5 := Aside0.mk hg5
  clear hr5 hb5 hg5 hHeld
  refine hK.out _ _ ?_
  clear hK K
  refine norm_ (a' := ?_) ?_ ?_
  rotate_left
  · show Act.put _ (some 26) _ = _
    simp only [Act.put, List.setIfInBounds_toArray, List.set_cons_zero, List.set_cons_succ]
    rfl
  refine pure_ (i := 7) (N := some 0) (v := ?_) (a' := ?_) #[true, true, true, true, true, true, true, true] rfl rfl (any_of HT_.out (by kernel_rfl)) (fun _ _ _ h => h) (Or.inl ⟨by rfl, ?_⟩) ?_ ?_
  rotate_left
  · intro w'
    go_simp
    with_reducible rfl
  rotate_left
  · simp only [Act.put, List.setIfInBounds_toArray, List.set_cons_zero]
    rfl
  refine done_ (done_of HT_.out (by kernel_rfl)) ?_
  rw [hm]
  rw [hm] at HR5
  obtain ⟨w6, hcl, hr6, hg6⟩ := clear_tail HR5.out (cap - m) (by rw [HEL.out]; omega) 0
  rw [HEL.out] at hcl
  have HR6 := Aside0.mk hr6
  have HG6 := Aside0.mk hg6
  have HM := Aside0.mk hm
  clear hr6 hg6 hm
  go_wp2_with (simp only [hlm, hcl])
  go_ret
  rw [HM.out]
  exact ⟨rfl, HR6.out, below_grown HB5.out HG6.out hgr0 HB5.out.size, Nat.le_trans (Nat.le_trans (Nat.le_refl _) HG5.out.size) HG6.out.size, fun k hk hS => (HG6.out.block k (Nat.lt_of_lt_of_le hk HG5.out.size) (fun e => hS (by injection e))).trans (HG5.out.block k hk (fun e => hS (by injection e)))⟩

end Go.Proofs.Ytfbjeiloefocgaa.CC
/-! Contracts of the package arm: Ask, Cancel, Set, and what it tells. -/
namespace Go.Proofs.Ytfbjeiloefocgaa.CC
open Go.RowKit Go.Proofs.Ytfbjeiloefocgaa.PG Go.Proofs.YtfbjeiloefocgaaW.PrintWords Go.Proofs.YtfbjeiloefocgaaW.PrintLast Go.Proofs.YtfbjeiloefocgaaW.PrintMore
attribute [local go_sem] Oper.semAt_some

theorem Ask_nil (b : Int) (w : World) : Calls Try.prog 21 #[.pointer none, .int .i64 b] w fun e w' => e = .returned (.int .i64 1) ∧ Below w.heap.size w w' := by
  go_enter Try.func21, Try.ntmps21
  go_wp2
  go_ret
  exact ⟨rfl, Below.refl _ _⟩
theorem Cancel_nil (b : Int) (w : World) : Calls Try.prog 27 #[.pointer none, .int .i64 b] w fun e w' => e = .returned (.int .i64 1) ∧ Below w.heap.size w w' := by
  go_enter Try.func27, Try.ntmps27
  go_wp2
  go_ret
  exact ⟨rfl, Below.refl _ _⟩
theorem Set_nil (p : Int) (w : World) : Calls Try.prog 28 #[.pointer none, .int .u8 p] w fun e w' => e = .returned (.int .i64 1) ∧ Below w.heap.size w w' := by
  go_enter Try.func28, Try.ntmps28
  go_wp2
  go_ret
  exact ⟨rfl, Below.refl _ _⟩
def askA (l : List S77) (b : Int) : Int × List S77 := if b < 0 ∨ 1024 ≤ b then (2, l) else if 0 ≤ ix77 l b then (6, l) else if l.length = 24 then (11, l) else (0, l ++ [⟨b, 0⟩])
set_option maxHeartbeats 1000000 in
theorem Ask_calls (g : Nat) (P : Nat → Prop) (s : Sc) (l : List S77) (b : Int) (w0 w : World) (hB : Below w0.heap.size w0 w) (h : AS w0.heap.size P w g s l) (hn : l.length < 1000) :
    Calls Try.prog 21 #[.pointer (some ⟨g, 0, none⟩), .int .i64 b] w fun e w' => e = .returned (.int .i64 (askA l b).1) ∧ AS w0.heap.size (fun k => P k ∨ w.heap.size ≤ k) w' g s (askA l b).2 ∧ Below w0.heap.size w0 w' ∧ Kept w w' P := by
  have HB := Aside0.mk hB
  have HS := Aside0.mk h
  have hf := find_calls b h hn
  have same_ : ∀ w', Below w.heap.size w w' → AS w0.heap.size (fun k => P k ∨ w.heap.size ≤ k) w' g s l ∧ Below w0.heap.size w0 w' ∧ Kept w w' P := fun w' hb => ⟨(HS.out.below hb).mono (fun k hk => .inl hk), below_then HB.out HB.out.size hb, kept_below _ hb⟩
  have SAME := Aside0.mk same_
  clear same_
  unfold askA
  by_cases h1 : b < 0 ∨ 1024 ≤ b
  · rw [if_pos h1]
    clear h hB hf
    by_cases h2 : b < 0
    · have d1 : decide (b < 0) = true := by simpa using h2
      go_enter Try.func21, Try.ntmps21
      go_wp2
      go_ret
      exact ⟨rfl, SAME.out _ (Below.refl _ _)⟩
    · have d1 : decide (b < 0) = false := by simpa using h2
      have d2 : decide (1024 ≤ b) = true := by simp; omega
      go_enter Try.func21, Try.ntmps21
      go_wp2
      go_ret
      exact ⟨rfl, SAME.out _ (Below.refl _ _)⟩
  · rw [if_neg h1]
    have d1 : decide (b < 0) = false := by simp; omega
    have d2 : decide (1024 ≤ b) = false := by simp; omega
    by_cases h2 : 0 ≤ ix77 l b
    · rw [if_pos h2]
      have d3 : decide (0 ≤ ix77 l b) = true := by simpa using h2
      clear h hB
      generalize ix77 l b = r at *
      go_enter Try.func21, Try.ntmps21
      go_wp2_with (go_at_call 44; with_reducible refine hf.mono ?_; rintro e w6 ⟨rfl, hb⟩)
      go_ret
      exact ⟨rfl, SAME.out _ hb⟩
    · rw [if_neg h2]
      have d3 : decide (0 ≤ ix77 l b) = false := by simpa using h2
      generalize ix77 l b = r at *
      obtain ⟨-, -, v, hg, hR⟩ := h
      obtain ⟨A, c, rfl, -, hC⟩ := Kd.R_reads hR
      have HG := Aside0.mk hg
      have HR := Aside0.mk hR
      have HN := Aside0.mk hn
      have c5 : w.cell? ⟨g, 5, none⟩ = some (.slice A l.length c) := (blk_cell hg 5).trans rfl
      clear hg hR hC hB hn
      by_cases h3 : l.length = 24
      · rw [if_pos h3]
        have d4 : ((l.length : Int) == 24) = true := by simp; omega
        have H3 := Aside0.mk h3
        clear h3
        go_enter Try.func21, Try.ntmps21
        go_wp2_with (go_at_call 44; with_reducible refine hf.mono ?_; rintro e w6 ⟨rfl, hb⟩; have c6 := pw_cell_below hb c5)
        go_ret
        exact ⟨rfl, SAME.out _ hb⟩
      · rw [if_neg h3]
        have d4 : ((l.length : Int) == 24) = false := by simp; omega
        clear h3
        have hbd := HS.out.bound
        obtain ⟨-, hgP', v', hg', hR'⟩ := hbd
        have ev : v' = .slice A l.length c := by
          rw [HG.out] at hg'
          simp only [Option.some.injEq, Obj.cells.injEq, Array.mk.injEq, List.cons.injEq, and_true, true_and] at hg'
          exact hg'.symm
        subst ev
        have HR' := Aside0.mk hR'
        clear hR' hg'
        go_enter Try.func21, Try.ntmps21
        go_wp2_with (first | (go_at_call 44; with_reducible refine hf.mono ?_; rintro e w6 ⟨rfl, hb⟩; have c6 := pw_cell_below hb c5; have HB6 := Aside0.mk hb; clear hb) | ((with_reducible refine gate_builtin (b := .append) (xs := #[.tmp 31, .tmp 34]) rfl ?_); at_builtin; refine Kd.R_append k77 (w0 := w0) w0.heap.size rfl (.tmp 31) (.tmp 34) 65 77 (.agg #[.int .i64 0, .int .i64 0]) 16 rfl Try.underlying65 info77 rfl (by decide) (by omega) (.slice A l.length c) l ⟨b, 0⟩ [.int .i64 b, .int .i64 0] (fun k => (P k ∧ k < w.heap.size) ∨ w.heap.size ≤ k) (fun _ => False) rfl rfl (k77_mkM _ _ _ ⟨b, 0⟩) (fun _ hk => hk.elim) ?aF (Kd.R_mono (Kd.R_below HR'.out HB6.out) (fun k hk => .inl hk)) (below_then HB.out HB.out.size HB6.out) (Nat.le_trans HB.out.size HB6.out.size) ?aL ?_; (case aF => exact fun k hk => .inr (Nat.le_trans HB6.out.size hk)); (case aL => have := HN.out; omega); intro v3 w9 ho hb hg hat; have hne := Kd.R_ne (Kd.R_below HR'.out HB6.out) (blk_below HG.out HB6.out) (by decide); have hg9 := (hg.block g (blk_lt (blk_below HG.out HB6.out)) hne).trans (blk_below HG.out HB6.out); have HO9 := Aside0.mk ho; have HB9 := Aside0.mk hb; have HGR := Aside0.mk hg; have HG9 := Aside0.mk hg9; obtain ⟨A3, c3, e3⟩ := Kd.R_slice ho; rw [show (l ++ [(⟨b, 0⟩ : S77)]).length = l.length + 1 from by simp] at e3; subst e3; have c9 : w9.cell? ⟨g, 5, none⟩ = some (.slice A l.length c) := (blk_cell hg9 5).trans rfl; have f9 := blk_frozen hg9 5; clear ho hb hg hat hg9))
        go_ret
        have o1 := Kd.R_set HO9.out HG9.out (by simp [show k77.E = [] from rfl]) 5 (.slice A3 (l.length + 1) c3)
        refine ⟨rfl, ⟨HS.out.base, .inl HS.out.mine, _, blk_put HG9.out 5 _ rfl, Kd.R_mono o1 (fun k hk => hk.elim (fun h => .inl h.1) .inr)⟩, HB9.out.setCell (p := ⟨g, 5, none⟩) HS.out.base _, ?_, fun k hk hS => ?_⟩
        · rw [World.size_setCell]
          exact Nat.le_trans HB6.out.size HGR.out.size
        · have hkg : k ≠ g := fun e => hS (e ▸ HS.out.mine)
          rw [Below.heap_setCell _ _ _ k hkg]
          refine (HGR.out.block k (Nat.lt_of_lt_of_le hk HB6.out.size) (fun e => ?_)).trans (HB6.out.block k hk)
          exact hS (HR'.out.1 k e.symm).1
end Go.Proofs.Ytfbjeiloefocgaa.CC
/-! Contracts of the package arm: Cancel, Set, and what it tells. -/
namespace Go.Proofs.Ytfbjeiloefocgaa.CC
open Go.RowKit Go.Proofs.Ytfbjeiloefocgaa.PG Go.Proofs.YtfbjeiloefocgaaW.PrintWords Go.Proofs.YtfbjeiloefocgaaW.PrintLast Go.Proofs.YtfbjeiloefocgaaW.PrintMore
attribute [local go_sem] Oper.semAt_some

def cancelA (l : List S77) (b : Int) : Int × List S77 := if ix77 l b < 0 then (5, l) else (0, l.eraseIdx (ix77 l b).toNat)
set_option maxHeartbeats 1000000 in
theorem Cancel_calls (g : Nat) (P : Nat → Prop) (s : Sc) (l : List S77) (b : Int) (w0 w : World) (hB : Below w0.heap.size w0 w) (h : AS w0.heap.size P w g s l) (hn : l.length < 1000) :
    Calls Try.prog 27 #[.pointer (some ⟨g, 0, none⟩), .int .i64 b] w fun e w' => e = .returned (.int .i64 (cancelA l b).1) ∧ AS w0.heap.size P w' g s (cancelA l b).2 ∧ Below w0.heap.size w0 w' ∧ Kept w w' P := by
  have HB := Aside0.mk hB
  have HS := Aside0.mk h
  have hf := find_calls b h hn
  unfold cancelA
  rcases ix77_range l b with hm | ⟨h0, h1⟩
  · rw [hm, if_pos (by decide)]
    rw [hm] at hf
    clear h hB
    go_enter Try.func27, Try.ntmps27
    go_wp2_with (go_at_call 44; with_reducible refine hf.mono ?_; rintro e w6 ⟨rfl, hb⟩)
    go_ret
    exact ⟨rfl, HS.out.below hb, below_then HB.out HB.out.size hb, kept_below _ hb⟩
  · obtain ⟨n, hnn⟩ := Int.eq_ofNat_of_zero_le h0
    rw [hnn] at hf h1 ⊢
    have hlt : n < l.length := by omega
    obtain ⟨gr, cap, hg, hR, hne, hP, hb0, hl, -⟩ := as_open h (by omega)
    rw [if_neg (by omega), Int.toNat_natCast]
    have d0 : decide ((n : Int) < 0) = false := by simp
    have c5 : w.cell? ⟨g, 5, none⟩ = some (.slice (some ⟨gr, 0, none⟩) l.length cap) := (blk_cell hg 5).trans rfl
    have ew : wrap64 ((n : Int) + 1) = ((n + 1 : Nat) : Int) := by unfold wrap64; omega
    have HR := Aside0.mk hR
    have HG := Aside0.mk hg
    have hdel : ∀ W, Below w.heap.size w W → Calls Try.prog 53 #[.slice (some ⟨gr, 0, none⟩) l.length cap, .int .i64 (n : Int), .int .i64 ((n : Int) + 1)] W fun e w' => e = .returned (.slice (some ⟨gr, 0, none⟩) (l.length - 1) cap) ∧ Aside0 (Kd.R k77 77 w' w0.heap.size P (.slice (some ⟨gr, 0, none⟩) (l.length - 1) cap) (l.eraseIdx n) ∧ Below w0.heap.size w0 w' ∧ Kept W w' (fun k => k = gr)) ∧ w'.cell? ⟨g, 5, none⟩ = some (.slice (some ⟨gr, 0, none⟩) l.length cap) ∧ w'.frozen? ⟨g, 5, none⟩ = false ∧ Aside0 (w'.heap[g]? = some (.cells #[.int .u8 s.p, .int .i64 s.per, .int .i64 s.pos, .bool s.up, .int .i64 s.mv, .slice (some ⟨gr, 0, none⟩) l.length cap] 67 (0, 0))) := fun W hb => by
      refine (Delete_calls gr cap l P n w0 W (below_then HB.out HB.out.size hb) (Kd.R_below HR.out hb) hn hlt).mono ?_
      rintro e w' ⟨rfl, h1, h2, h3⟩
      have hg' := (h3.2 g (blk_lt (blk_below HG.out hb)) hne).trans (blk_below HG.out hb)
      exact ⟨rfl, ⟨h1, h2, h3⟩, (blk_cell hg' 5).trans rfl, blk_frozen hg' 5, ⟨hg'⟩⟩
    clear hR hg h hB
    go_enter Try.func27, Try.ntmps27
    go_wp2_with (first | (go_at_call 44; with_reducible refine hf.mono ?_; rintro e w6 ⟨rfl, hb⟩; have c6 := pw_cell_below hb c5; have HB6 := Aside0.mk hb; clear hb) | (go_at_call 53; with_reducible refine (hdel _ HB6.out).mono ?_; rintro e w8 ⟨rfl, hx, c8, f8, hg8⟩))
    go_ret
    have o1 := Kd.R_set hx.out.1 hg8.out (by simp [show k77.E = [] from rfl]) 5 (.slice (some ⟨gr, 0, none⟩) (l.length - 1) cap)
    refine ⟨rfl, ⟨HS.out.base, HS.out.mine, _, blk_put hg8.out 5 _ rfl, o1⟩, hx.out.2.1.setCell (p := ⟨g, 5, none⟩) HS.out.base _, ?_, fun k hk hS => ?_⟩
    · rw [World.size_setCell]
      exact Nat.le_trans HB6.out.size hx.out.2.2.1
    · have hkg : k ≠ g := fun e => hS (e ▸ HS.out.mine)
      rw [Below.heap_setCell _ _ _ k hkg]
      exact (hx.out.2.2.2 k (Nat.lt_of_lt_of_le hk HB6.out.size) (fun e => hS (e ▸ hP))).trans (HB6.out.block k hk)
def setA (s : Sc) (p : Int) : Int × Sc := if 1 ≤ p ∧ p ≤ 4 then (0, { s with p := p }) else (2, s)
theorem Set_calls (g : Nat) (P : Nat → Prop) (s : Sc) (l : List S77) (p : Int) (w0 w : World) (hB : Below w0.heap.size w0 w) (h : AS w0.heap.size P w g s l) :
    Calls Try.prog 28 #[.pointer (some ⟨g, 0, none⟩), .int .u8 p] w fun e w' => e = .returned (.int .i64 (setA s p).1) ∧ AS w0.heap.size P w' g (setA s p).2 l ∧ Below w0.heap.size w0 w' ∧ Kept w w' P := by
  have HB := Aside0.mk hB
  have HS := Aside0.mk h
  unfold setA
  obtain ⟨-, -, v, hg, -⟩ := h
  have HG := Aside0.mk hg
  clear hg hB
  by_cases hp : 1 ≤ p ∧ p ≤ 4
  · rw [if_pos hp]
    have hnew := New_ok p 1 ⟨hp.1, hp.2, by decide, by decide⟩ w
    go_enter Try.func28, Try.ntmps28
    go_upto_region 5 with (go_at_call 32; with_reducible refine hnew.mono ?_; rintro e w6 ⟨⟨gg, rfl, -⟩, hb⟩)
    have c0 : w6.cell? ⟨g, 0, none⟩ = some (.int .u8 s.p) := pw_cell_below hb ((blk_cell HG.out 0).trans rfl)
    have f0 := blk_frozen (blk_below HG.out hb) 0
    have HB6 := Aside0.mk hb
    clear hb
    go_wp2
    go_ret
    obtain ⟨q1, q2⟩ := AS.setc (HS.out.below HB6.out) 0 (.int .u8 p) { s with p := p } (fun _ => rfl)
    exact ⟨rfl, q1, (below_then HB.out HB.out.size HB6.out).setCell (p := ⟨g, 0, none⟩) HS.out.base _, Nat.le_trans HB6.out.size q2.1, fun k hk hS => (q2.2 k (Nat.lt_of_lt_of_le hk HB6.out.size) hS).trans (HB6.out.block k hk)⟩
  · rw [if_neg hp]
    have hnew := New_no p 1 (fun h => hp ⟨h.1, h.2.1⟩) w
    go_enter Try.func28, Try.ntmps28
    go_wp2_with (go_at_call 32; with_reducible refine hnew.mono ?_; rintro e w6 ⟨rfl, hb⟩)
    go_ret
    exact ⟨rfl, HS.out.below hb, below_then HB.out HB.out.size hb, kept_below _ hb⟩
theorem At_nil (w : World) : Calls Try.prog 29 #[.pointer none] w fun e w' => e = .returned (.int .i64 0) ∧ w' = w := by
  go_enter Try.func29, Try.ntmps29
  go_wp2
  go_ret
  exact ⟨rfl, rfl⟩
theorem Moved_nil (w : World) : Calls Try.prog 30 #[.pointer none] w fun e w' => e = .returned (.int .i64 0) ∧ w' = w := by
  go_enter Try.func30, Try.ntmps30
  go_wp2
  go_ret
  exact ⟨rfl, rfl⟩
theorem Up_nil (w : World) : Calls Try.prog 31 #[.pointer none] w fun e w' => e = .returned (.bool false) ∧ w' = w := by
  go_enter Try.func31, Try.ntmps31
  go_wp2
  go_ret
  exact ⟨rfl, rfl⟩
theorem Waiting_nil (w : World) : Calls Try.prog 19 #[.pointer none] w fun e w' => e = .returned (.slice none 0 0) ∧ w' = w := by
  go_enter Try.func19, Try.ntmps19
  go_wp2
  go_ret
  exact ⟨rfl, rfl⟩
theorem Age_nil (b : Int) (w : World) : Calls Try.prog 22 #[.pointer none, .int .i64 b] w fun e w' => e = .returned (.int .i64 (-1)) ∧ Below w.heap.size w w' := by
  go_enter Try.func22, Try.ntmps22
  go_wp2_with (go_at_call 44; with_reducible refine (find_nil b _).mono ?_; rintro e w6 ⟨rfl, hb⟩)
  go_ret
  exact ⟨rfl, hb⟩
section
variable {B : Nat} {P : Nat → Prop} {w : World} {g : Nat} {s : Sc} {l : List S77}
theorem At_calls (h : AS B P w g s l) : Calls Try.prog 29 #[.pointer (some ⟨g, 0, none⟩)] w fun e w' => e = .returned (.int .i64 s.pos) ∧ w' = w := by
  obtain ⟨-, -, v, hg, -⟩ := h
  have c2 : w.cell? ⟨g, 2, none⟩ = some (.int .i64 s.pos) := (blk_cell hg 2).trans rfl
  clear hg
  go_enter Try.func29, Try.ntmps29
  go_wp2
  go_ret
  exact ⟨rfl, rfl⟩
theorem Moved_calls (h : AS B P w g s l) : Calls Try.prog 30 #[.pointer (some ⟨g, 0, none⟩)] w fun e w' => e = .returned (.int .i64 s.mv) ∧ w' = w := by
  obtain ⟨-, -, v, hg, -⟩ := h
  have c2 : w.cell? ⟨g, 4, none⟩ = some (.int .i64 s.mv) := (blk_cell hg 4).trans rfl
  clear hg
  go_enter Try.func30, Try.ntmps30
  go_wp2
  go_ret
  exact ⟨rfl, rfl⟩
theorem Up_calls (h : AS B P w g s l) : Calls Try.prog 31 #[.pointer (some ⟨g, 0, none⟩)] w fun e w' => e = .returned (.bool s.up) ∧ w' = w := by
  obtain ⟨-, -, v, hg, -⟩ := h
  have c2 : w.cell? ⟨g, 3, none⟩ = some (.bool s.up) := (blk_cell hg 3).trans rfl
  clear hg
  go_enter Try.func31, Try.ntmps31
  go_wp2
  go_ret
  exact ⟨rfl, rfl⟩
def ageA (l : List S77) (b : Int) : Int := if ix77 l b < 0 then -1 else (l.getD (ix77 l b).toNat z77).f1
theorem Age_calls (b : Int) (h : AS B P w g s l) (hn : l.length < 1000) : Calls Try.prog 22 #[.pointer (some ⟨g, 0, none⟩), .int .i64 b] w fun e w' => e = .returned (.int .i64 (ageA l b)) ∧ Below w.heap.size w w' := by
  have hf := find_calls b h hn
  unfold ageA
  rcases ix77_range l b with hm | ⟨h0, h1⟩
  · rw [hm, if_pos (by decide)]
    rw [hm] at hf
    go_enter Try.func22, Try.ntmps22
    go_wp2_with (go_at_call 44; with_reducible refine hf.mono ?_; rintro e w6 ⟨rfl, hb⟩)
    go_ret
    exact ⟨rfl, hb⟩
  · obtain ⟨n, hnn⟩ := Int.eq_ofNat_of_zero_le h0
    rw [hnn] at hf h1 ⊢
    have hlt : n < l.length := by omega
    obtain ⟨gr, cap, hg, hR, -⟩ := as_open h (by omega)
    rw [if_neg (by omega), Int.toNat_natCast, getD77 _ _ hlt]
    have q1 := (as_cells hR n hlt).1.2
    have c5 : w.cell? ⟨g, 5, none⟩ = some (.slice (some ⟨gr, 0, none⟩) l.length cap) := (blk_cell hg 5).trans rfl
    have d0 : decide ((n : Int) < 0) = false := by simp
    have p1 : (0 ≤ (n : Int)) = True := eq_true (by omega)
    have p2 : ((n : Int) < (l.length : Int)) = True := eq_true (by omega)
    clear hR hg h
    go_enter Try.func22, Try.ntmps22
    go_wp2_with (go_at_call 44; with_reducible refine hf.mono ?_; rintro e w6 ⟨rfl, hb⟩; have q2 := pw_cell_below hb q1; have c6 := pw_cell_below hb c5)
    go_ret
    exact ⟨rfl, hb⟩
set_option maxHeartbeats 2000000 in
theorem Waiting_calls (h : AS B P w g s l) (hn : l.length < 1000) : Calls Try.prog 19 #[.pointer (some ⟨g, 0, none⟩)] w fun e w' => (∃ v, e = .returned v ∧ Kd.R (Kd.int .i64) 3 w' w.heap.size (fun _ => True) v (l.map (·.f0))) ∧ Below w.heap.size w w' := by
  obtain ⟨-, -, v, hg, hR⟩ := h
  obtain ⟨A, c, rfl, -, hC⟩ := Kd.R_reads hR
  have HC := Aside0.mk hC
  have HN := Aside0.mk hn
  have c5 : w.cell? ⟨g, 5, none⟩ = some (.slice A l.length c) := (blk_cell hg 5).trans rfl
  clear hg hR hC hn
  go_enter Try.func19, Try.ntmps19
  go_wp2
  go_loopg [3, 13] l.length (fun kq v3 v4 w' => ∃ i : Nat, i + kq = l.length ∧ v4 = .int .i64 (i : Int) ∧ Aside0 (Kd.R (Kd.int .i64) 3 w' w.heap.size (fun _ => True) v3 ((l.take i).map (·.f0))) ∧ Aside0 (Below w.heap.size w w'))
  case atStart => exact ⟨0, by omega, rfl, ⟨Kd.R_nil _ _ _ _ _⟩, ⟨Below.refl _ _⟩⟩
  case round =>
    obtain ⟨i, hi, rfl, hO, hB⟩ := hrel
    cases gk with
    | zero =>
      obtain rfl : i = l.length := by omega
      have c0 : decide ((l.length : Int) < (l.length : Int)) = false := by simp
      go_wp2
      go_ret
      have hO' := hO.out
      rw [List.take_length] at hO'
      exact ⟨⟨_, rfl, hO'⟩, hB.out⟩
    | succ k1 =>
      have hlt : i < l.length := by omega
      have c0 : decide ((i : Int) < (l.length : Int)) = true := by simp; omega
      have p123 : 0 ≤ (i : Int) := by omega
      have q123 : (i : Int) < (l.length : Int) := by omega
      obtain ⟨ad, e, hx0, hx1⟩ := at_T77 (Kd.C_below HC.out hB.out) (i : Int) p123 q123
      cases e
      have hrd : rd_T77 l (i : Int) = l[i] := by simp [rd_T77, List.getD_eq_getElem?_getD, hlt]
      rw [hrd] at hx0 hx1
      have e3 : (l.take (i + 1)).map (·.f0) = (l.take i).map (·.f0) ++ [l[i].f0] := by rw [List.take_succ_eq_append_getElem hlt, List.map_append]; rfl
      obtain ⟨xs, hxs⟩ : ∃ xs, (l.take i).map (·.f0) = xs := ⟨_, rfl⟩
      have el : xs.length = i := by rw [← hxs]; simp; omega
      have hO2 := hO.out
      rw [hxs] at hO2 e3
      have HO2 := Aside0.mk hO2
      have E3 := Aside0.mk e3
      have EL := Aside0.mk el
      clear e3 el hO hO2 hxs
      obtain ⟨x, hx⟩ : ∃ x, l[i] = x := ⟨_, rfl⟩
      rw [hx] at hx0 hx1 E3
      rw [Int.toNat_natCast] at hx0 hx1
      replace p123 := eq_true p123
      replace q123 := eq_true q123
      go_upto_region 7 with (first | ((with_reducible refine gate_dst (N := 5) rfl ?_); refine box_event ?hg (N := 5) ?hd (cs := #[.int .i64 0, .int .i64 0]) (t := 77) ?hr ?_; (case hd => rfl); (case hg => rfl); (case hr => first | (go_simp; done) | (go_simp; rfl)); intro gi hgi w7 hbox hb7; have z0 : w7.cell? ⟨gi, 0, none⟩ = some (.int .i64 0) := (blk_cell hbox 0).trans rfl; have z1 : w7.cell? ⟨gi, 1, none⟩ = some (.int .i64 0) := (blk_cell hbox 1).trans rfl; have y0 := blk_frozen hbox 0; have y1 := blk_frozen hbox 1; have HXgi := Aside0.mk hbox; have HIgi := Aside0.mk hgi; have HBgi := Aside0.mk hb7; clear hbox hgi hb7))
      have hi8 : ((w7.setCell ⟨gi, 0, none⟩ (.int .i64 x.f0)).setCell ⟨gi, 1, none⟩ (.int .i64 x.f1)).heap[gi]? = some (.cells #[.int .i64 x.f0, .int .i64 x.f1] 77 (0, 0)) := blk_put (blk_put HXgi.out 0 _ rfl) 1 _ rfl
      have hgi2 : wr.heap.size ≤ gi := Nat.le_of_eq HIgi.out.symm
      have hb8 : Below wr.heap.size wr ((w7.setCell ⟨gi, 0, none⟩ (.int .i64 x.f0)).setCell ⟨gi, 1, none⟩ (.int .i64 x.f1)) := (HBgi.out.setCell (p := ⟨gi, 0, none⟩) hgi2 _).setCell (p := ⟨gi, 1, none⟩) hgi2 _
      clear z0 z1 y0 y1 hx0 hx1
      generalize ((w7.setCell ⟨gi, 0, none⟩ (.int .i64 x.f0)).setCell ⟨gi, 1, none⟩ (.int .i64 x.f1)) = w8 at *
      have z0 : w8.cell? ⟨gi, 0, none⟩ = some (.int .i64 x.f0) := (blk_cell hi8 0).trans rfl
      have HB8 := Aside0.mk (below_step hB.out hb8)
      have HO8 := Aside0.mk (Kd.R_below HO2.out hb8)
      clear hb8 hi8
      go_wp2_with (first | ((with_reducible refine gate_builtin (b := .append) (xs := #[.tmp 17, .tmp 20]) rfl ?_); at_builtin; refine Kd.R_append (Kd.int .i64) (w0 := w) w.heap.size rfl (.tmp 17) (.tmp 20) 23 3 (.int .i64 0) 8 rfl Try.underlying23 info3 rfl (by decide) (by omega) _ xs x.f0 [.int .i64 x.f0] (fun _ => True) (fun _ => False) rfl rfl ?aP (fun _ hk => hk.elim) ?aF ?aO HB8.out ?aS ?aL ?_; (case aP => exact rfl); (case aF => exact (fun _ _ => trivial)); (case aO => exact HO8.out); (case aS => exact HB8.out.size); (case aL => have := EL.out; have := HN.out; omega); intro v1 w9 ho hb hg hat; have HO1 := Aside0.mk ho; have HB1 := Aside0.mk hb; clear ho hb hg hat))
      go_roundg k1
      case rel => exact ⟨i + 1, by omega, by first | rfl | (rw [show wrap64 ((i : Int) + 1) = ((i + 1 : Nat) : Int) by unfold wrap64; have := HN.out; omega]), ⟨by rw [E3.out]; exact HO1.out⟩, HB1⟩
      all_goals omega
end
end Go.Proofs.Ytfbjeiloefocgaa.CC
/-! Contracts of the package arm: way. -/
namespace Go.Proofs.Ytfbjeiloefocgaa.CC
open Go.RowKit Go.Proofs.Ytfbjeiloefocgaa.Fl Go.Proofs.Ytfbjeiloefocgaa.PL Go.Proofs.Ytfbjeiloefocgaa.PG Go.Proofs.YtfbjeiloefocgaaW.PrintWords Go.Proofs.YtfbjeiloefocgaaW.PrintLast Go.Proofs.YtfbjeiloefocgaaW.PrintMore
attribute [local go_sem] Oper.semAt_some

theorem At_place (b p : Int) (hb : Bl b) (hp : Tr p) (w : World) : Calls Try.prog 16 #[.int .i64 b, .int .i64 p] w fun e w' => e = .returned (.tuple #[.complex .f64 (X b p) (Y b p), .int .i64 0]) ∧ Below w.heap.size w w' := by
  have h := Go.Proofs.Ytfbjeiloefocgaa.PL.At_calls b p w
  have hm : mayB p [b] = true := by
    unfold mayB
    have h1 := hp.1
    have h2 := hp.2
    have h3 := hb.1
    have h4 := hb.2
    simp [bad]
    omega
  unfold atV at h
  rw [if_pos hm] at h
  exact h
def way_T1 : Bool × List (List Nat × List Nat) := (true, [([], []), ([0], [0]), ([1], [1]), ([2], [2]), ([], []), ([4], [4]), ([5], [5]), ([6], [6]), ([3, 7], [3, 7]), ([8], [8]), ([9], [9]), ([9], [9]), ([10, 8, 0, 1, 2, 3, 4, 5, 6, 7, 8, 9, 10], [10]), ([11, 12, 0, 1, 2, 3, 4, 5, 6, 7, 8, 9, 10, 11, 12], [11])])
def way_B1 : List Nat := [0, 1, 3, 7, 0, 16, 48, 112, 255, 511, 1023, 1023, 2047, 8191]
theorem way_tab1 : rtab .any (opsOf Try.f43 1) = way_T1 := by kernel_rfl
theorem way_bits1 : waitsOk way_T1.2 way_B1 = true := by kernel_rfl
set_option maxRecDepth 100000 in
set_option maxHeartbeats 2000000 in
theorem way_calls {B : Nat} {P : Nat → Prop} {w : World} {g : Nat} {s : Sc} {l : List S77} (b : Int) (h : AS B P w g s l) (hpos : Bl s.pos) (hper : Tr s.per) (hb : Bl b) :
    Calls Try.prog 43 #[.pointer (some ⟨g, 0, none⟩), .int .i64 b] w fun e w' => e = .returned (.int .i64 (wayI s.pos b s.per)) ∧ Below w.heap.size w w' := by
  obtain ⟨-, -, v, hg, -⟩ := h
  have c2 : w.cell? ⟨g, 2, none⟩ = some (.int .i64 s.pos) := (blk_cell hg 2).trans rfl
  have c1 : w.cell? ⟨g, 1, none⟩ = some (.int .i64 s.per) := (blk_cell hg 1).trans rfl
  clear hg
  go_enter Try.func43, Try.ntmps43
  go_upto_region 1 with (fail)
  refine start_ (n := 14) (S := fun w' => w'.cell? ⟨g, 2, none⟩ = some (.int .i64 s.pos) ∧ w'.cell? ⟨g, 1, none⟩ = some (.int .i64 s.per)) (ds := [8]) #[false, false, false, false, false, false, false, false, false, false, false, false, false, false] (by kernel_rfl) rfl rfl ⟨c2, c1⟩ (fun hHeld => ?_); refine with_tabW way_tab1 way_bits1 (fun HT_ HW_ => ?_)
  refine pure_ (i := 0) (N := some 10) (v := ?_) (a' := ?_) #[true, false, false, false, false, false, false, false, false, false, false, false, false, false] rfl rfl (any_of HT_.out (by kernel_rfl)) (fun _ _ _ h => h) (Or.inl ⟨by rfl, ?_⟩) ?_ ?_
  rotate_left
  · intro w'
    go_simp
    with_reducible rfl
  rotate_left
  · simp only [Act.put, List.setIfInBounds_toArray, List.set_cons_zero, List.set_cons_succ]
    rfl
  refine pure_ (i := 1) (N := some 11) (v := ?_) (a' := ?_) #[true, true, false, false, false, false, false, false, false, false, false, false, false, false] rfl rfl (any_of HT_.out (by kernel_rfl)) (fun _ _ _ h => h) (Or.inl ⟨by rfl, ?_⟩) ?_ ?_
  rotate_left
  · intro w'
    go_simp
    with_reducible rfl
  rotate_left
  · simp only [Act.put, List.setIfInBounds_toArray, List.set_cons_zero, List.set_cons_succ]
    rfl
  refine pure_ (i := 2) (N := some 12) (v := ?_) (a' := ?_) #[true, true, true, false, false, false, false, false, false, false, false, false, false, false] rfl rfl (any_of HT_.out (by kernel_rfl)) (fun _ _ _ h => h) (Or.inl ⟨by rfl, ?_⟩) ?_ ?_
  rotate_left
  · intro w'
    go_simp
    with_reducible rfl
  rotate_left
  · simp only [Act.put, List.setIfInBounds_toArray, List.set_cons_zero, List.set_cons_succ]
    rfl
  refine take_ (i := 3) (N := some 13) (v := ?_) (a' := ?_) #[true, true, true, true, false, false, false, false, false, false, false, false, false, false] rfl rfl (take_ofW HT_.out HW_.out (by kernel_rfl)) (fun _ _ _ h => h) (Or.inl ⟨by rfl, ?_⟩) hHeld ?_ ?_
  rotate_left
  · rintro w' ⟨s0, s1⟩
    go_simp
    with_reducible rfl
  rotate_left
  · simp only [Act.put, List.setIfInBounds_toArray, List.set_cons_zero, List.set_cons_succ]
    rfl
  refine pure_ (i := 4) (N := some 14) (v := ?_) (a' := ?_) #[true, true, true, true, true, false, false, false, false, false, false, false, false, false] rfl rfl (any_of HT_.out (by kernel_rfl)) (fun _ _ _ h => h) (Or.inl ⟨by rfl, ?_⟩) ?_ ?_
  rotate_left
  · intro w'
    go_simp
    with_reducible rfl
  rotate_left
  · simp only [Act.put, List.setIfInBounds_toArray, List.set_cons_zero, List.set_cons_succ]
    rfl
  refine pure_ (i := 5) (N := some 15) (v := ?_) (a' := ?_) #[true, true, true, true, true, true, false, false, false, false, false, false, false, false] rfl rfl (any_of HT_.out (by kernel_rfl)) (fun _ _ _ h => h) (Or.inl ⟨by rfl, ?_⟩) ?_ ?_
  rotate_left
  · intro w'
    go_simp
    with_reducible rfl
  rotate_left
  · simp only [Act.put, List.setIfInBounds_toArray, List.set_cons_zero, List.set_cons_succ]
    rfl
  refine pure_ (i := 6) (N := some 16) (v := ?_) (a' := ?_) #[true, true, true, true, true, true, true, false, false, false, false, false, false, false] rfl rfl (any_of HT_.out (by kernel_rfl)) (fun _ _ _ h => h) (Or.inl ⟨by rfl, ?_⟩) ?_ ?_
  rotate_left
  · intro w'
    go_simp
    with_reducible rfl
  rotate_left
  · simp only [Act.put, List.setIfInBounds_toArray, List.set_cons_zero, List.set_cons_succ]
    rfl
  refine take_ (i := 7) (N := some 17) (v := ?_) (a' := ?_) #[true, true, true, true, true, true, true, true, false, false, false, false, false, false] rfl rfl (take_ofW HT_.out HW_.out (by kernel_rfl)) (fun _ _ _ h => h) (Or.inl ⟨by rfl, ?_⟩) hHeld ?_ ?_
  rotate_left
  · rintro w' ⟨s0, s1⟩
    go_simp
    with_reducible rfl
  rotate_left
  · simp only [Act.put, List.setIfInBounds_toArray, List.set_cons_zero, List.set_cons_succ]
    rfl
  refine last_ (i := 8) (N := some 18) #[true, true, true, true, true, true, true, true, true, false, false, false, false, false] rfl rfl (one_of HT_.out (by kernel_rfl)) (by decide) (fun K hK => ?_)
  refine goes_ Try.func16 (by kernel_rfl) rfl #[.int .i64 s.pos, .int .i64 s.per] (by rfl) rfl rfl (by (try simp only [List.map_toArray, List.map_cons, List.map_nil]); rfl) ?_
  with_reducible refine (At_place s.pos s.per hpos hper _).mono ?_
  rintro e w2 ⟨rfl, hb2⟩
  have HB2 : Aside0 (Below w.heap.size w w2) := ⟨below_step (below_drew (Below.refl _ _)) hb2⟩
  refine ⟨_, rfl, ?_⟩
  clear hHeld hb2
  refine hK.out _ _ ?_
  clear hK K
  refine norm_ (a' := ?_) ?_ ?_
  rotate_left
  · show Act.put _ (some 18) _ = _
    simp only [Act.put, List.setIfInBounds_toArray, List.set_cons_zero, List.set_cons_succ]
    rfl
  refine pure_ (i := 9) (N := some 9) (v := ?_) (a' := ?_) #[true, true, true, true, true, true, true, true, true, true, false, false, false, false] rfl rfl (any_of HT_.out (by kernel_rfl)) (fun _ _ _ h => h) (Or.inl ⟨by rfl, ?_⟩) ?_ ?_
  rotate_left
  · intro w'
    go_simp
    with_reducible rfl
  rotate_left
  · simp only [Act.put, List.setIfInBounds_toArray, List.set_cons_zero, List.set_cons_succ]
    rfl
  refine pure_ (i := 10) (N := some 19) (v := ?_) (a' := ?_) #[true, true, true, true, true, true, true, true, true, true, true, false, false, false] rfl rfl (any_of HT_.out (by kernel_rfl)) (fun _ _ _ h => h) (Or.inl ⟨by rfl, ?_⟩) ?_ ?_
  rotate_left
  · intro w'
    go_simp
    with_reducible rfl
  rotate_left
  · simp only [Act.put, List.setIfInBounds_toArray, List.set_cons_zero, List.set_cons_succ]
    rfl
  refine pure_ (i := 11) (N := some 20) (v := ?_) (a' := ?_) #[true, true, true, true, true, true, true, true, true, true, true, true, false, false] rfl rfl (any_of HT_.out (by kernel_rfl)) (fun _ _ _ h => h) (Or.inl ⟨by rfl, ?_⟩) ?_ ?_
  rotate_left
  · intro w'
    go_simp
    with_reducible rfl
  rotate_left
  · simp only [Act.put, List.setIfInBounds_toArray, List.set_cons_zero, List.set_cons_succ]
    rfl
  refine pure_ (i := 12) (N := some 5) (v := ?_) (a' := ?_) #[true, true, true, true, true, true, true, true, true, true, true, true, true, false] rfl rfl (any_of HT_.out (by kernel_rfl)) (fun _ _ _ h => h) (Or.inl ⟨by rfl, ?_⟩) ?_ ?_
  rotate_left
  · intro w'
    go_simp
    with_reducible rfl
  rotate_left
  · simp only [Act.put, List.setIfInBounds_toArray, List.set_cons_zero, List.set_cons_succ]
    rfl
  refine pure_ (i := 13) (N := some 6) (v := ?_) (a' := ?_) #[true, true, true, true, true, true, true, true, true, true, true, true, true, true] rfl rfl (any_of HT_.out (by kernel_rfl)) (fun _ _ _ h => h) (Or.inl ⟨by rfl, ?_⟩) ?_ ?_
  rotate_left
  · intro w'
    go_simp
    with_reducible rfl
  rotate_left
  · simp only [Act.put, List.setIfInBounds_toArray, List.set_cons_zero, List.set_cons_succ]
    rfl
  refine done_ (done_of HT_.out (by kernel_rfl)) ?_
  have c3 := pw_cell_below HB2.out c1
  go_wp2_with (first | (go_at_call 16; with_reducible refine (At_place b s.per hb hper _).mono ?_; rintro e w3 ⟨rfl, hb3⟩; have HB3 := Aside0.mk (below_step HB2.out hb3); clear hb3) | (go_at_call 17; with_reducible refine (way_int s.pos b s.per hpos hb hper _).mono ?_; rintro e w4 ⟨rfl, rfl⟩))
  go_ret
  exact ⟨rfl, HB3.out⟩
end Go.Proofs.Ytfbjeiloefocgaa.CC
/-! Contracts of the package arm: the best of some. -/
namespace Go.Proofs.Ytfbjeiloefocgaa.CC
open Go.RowKit Go.Proofs.Ytfbjeiloefocgaa.Fl Go.Proofs.Ytfbjeiloefocgaa.PL Go.Proofs.Ytfbjeiloefocgaa.PG Go.Proofs.YtfbjeiloefocgaaW.PrintWords Go.Proofs.YtfbjeiloefocgaaW.PrintLast Go.Proofs.YtfbjeiloefocgaaW.PrintMore
attribute [local go_sem] Oper.semAt_some

theorem ret_cell {fn : Func} {p : Tmp} (h : fn.results = #[.cell p 77]) (tmps : Array Value) (w : World) (g : Nat) (x : S77) (hp : tmps.getD p undef = .pointer (some ⟨g, 0, none⟩)) (hg : w.heap[g]? = some (.cells #[.int .i64 x.f0, .int .i64 x.f1] 77 (0, 0))) :
    (results fn tmps).run Try.prog w = .ok (.agg #[.int .i64 x.f0, .int .i64 x.f1]) w := results_cell_row h tmps w g 77 _ (0, 0) _ hp hg Try.underlying77 rfl (by kernel_rfl)
theorem ret_cell_tmp {fn : Func} {p u : Tmp} (h : fn.results = #[.cell p 77, .tmp u]) (tmps : Array Value) (w : World) (g : Nat) (x : S77) (hp : tmps.getD p undef = .pointer (some ⟨g, 0, none⟩)) (hg : w.heap[g]? = some (.cells #[.int .i64 x.f0, .int .i64 x.f1] 77 (0, 0))) :
    (results fn tmps).run Try.prog w = .ok (.tuple #[.agg #[.int .i64 x.f0, .int .i64 x.f1], tmps.getD u undef]) w := by
  rw [results_cell_tmp h, hp]
  have hi : (Try.prog.info? 77).map (·.size) = some (#[.int .i64 x.f0, .int .i64 x.f1] : Array Value).size := by kernel_rfl
  have hv := run_loadVar_row (P := Try.prog) w g 77 77 (#[.int .i64 x.f0, .int .i64 x.f1] : Array Value) (0, 0) _ hg Try.underlying77 rfl hi
  simp [asAddr, hv]
/-- The first one that is better than all others. -/
def bst (p : S77 → S77 → Bool) : List S77 → S77
  | [] => z77
  | x :: t => t.foldl (fun o y => if p y o = true then y else o) x
theorem bst_snoc (p : S77 → S77 → Bool) (l : List S77) (x : S77) (h : 0 < l.length) : bst p (l ++ [x]) = if p x (bst p l) = true then x else bst p l := by
  cases l with
  | nil => exact absurd h (by simp)
  | cons y t =>
    simp only [bst, List.cons_append, List.foldl_append, List.foldl_cons, List.foldl_nil]
    rfl
def lowB (x y : S77) : Bool := decide (x.f0 < y.f0)
def higB (x y : S77) : Bool := decide (y.f0 < x.f0)
theorem lower_calls (x y : S77) (w : World) : Calls Try.prog 81 #[.agg #[.int .i64 x.f0, .int .i64 x.f1], .agg #[.int .i64 y.f0, .int .i64 y.f1]] w fun e w' => e = .returned (.bool (lowB x y)) ∧ Below w.heap.size w w' := arm_lower.calls x.f0 x.f1 y.f0 y.f1 _ w (by unfold arm_lower.f lowB; first | rfl | simp)
theorem higher_calls (x y : S77) (w : World) : Calls Try.prog 88 #[.agg #[.int .i64 x.f0, .int .i64 x.f1], .agg #[.int .i64 y.f0, .int .i64 y.f1]] w fun e w' => e = .returned (.bool (higB x y)) ∧ Below w.heap.size w w' := arm_higher.calls x.f0 x.f1 y.f0 y.f1 _ w (by unfold arm_higher.f higB; first | rfl | simp)
/-- How much further one is than another. -/
def dif (s : Sc) (x y : S77) : Int := wayI s.pos x.f0 s.per - wayI s.pos y.f0 s.per
def nearB (s : Sc) (x y : S77) : Bool := decide (dif s x y < 0) || (dif s x y == 0 && decide (x.f0 < y.f0))
def near_T1 : Bool × List (List Nat × List Nat) := (true, [([], []), ([], []), ([1], [1]), ([0, 2], [0, 2]), ([], []), ([], []), ([5], [5]), ([4, 6, 3], [4, 6]), ([3, 7], [3, 7]), ([8, 7, 0, 1, 2, 3, 4, 5, 6, 7, 8], [8])])
def near_B1 : List Nat := [0, 0, 2, 7, 0, 0, 32, 127, 255, 511]
theorem near_tab1 : rtab .any (opsOf Try.f78 1) = near_T1 := by kernel_rfl
theorem near_bits1 : waitsOk near_T1.2 near_B1 = true := by kernel_rfl
set_option maxRecDepth 100000 in
set_option maxHeartbeats 2000000 in
theorem near1_calls {B : Nat} {P : Nat → Prop} {w : World} {g q : Nat} {s : Sc} {l : List S77} (x y : S77) (h : AS B P w g s l) (hq : w.cell? ⟨q, 0, none⟩ = some (.pointer (some ⟨g, 0, none⟩))) (hpos : Bl s.pos) (hper : Tr s.per) (hx : Bl x.f0) (hy : Bl y.f0) :
    Calls Try.prog 78 #[.agg #[.int .i64 x.f0, .int .i64 x.f1], .agg #[.int .i64 y.f0, .int .i64 y.f1], .pointer (some ⟨q, 0, none⟩)] w fun e w' => e = .returned (.bool (nearB s x y)) ∧ Below w.heap.size w w' := by
  have hw1 : ∀ W, Below w.heap.size w W → Calls Try.prog 43 #[.pointer (some ⟨g, 0, none⟩), .int .i64 x.f0] W fun e w' => e = .returned (.int .i64 (wayI s.pos x.f0 s.per)) ∧ Below W.heap.size W w' := fun W hb => way_calls x.f0 (h.below hb) hpos hper hx
  have hw2 : ∀ W, Below w.heap.size w W → Calls Try.prog 43 #[.pointer (some ⟨g, 0, none⟩), .int .i64 y.f0] W fun e w' => e = .returned (.int .i64 (wayI s.pos y.f0 s.per)) ∧ Below W.heap.size W w' := fun W hb => way_calls y.f0 (h.below hb) hpos hper hy
  have l1 := wayI_le s.pos x.f0 s.per hpos hx hper
  have l2 := wayI_le s.pos y.f0 s.per hpos hy hper
  have hd : wrap64 (wayI s.pos x.f0 s.per - wayI s.pos y.f0 s.per) = dif s x y := by unfold dif wrap64; omega
  have HD := Aside0.mk hd
  have HQ := Aside0.mk hq
  clear h hq l1 l2 hd
  unfold nearB
  generalize dif s x y = d at *
  generalize wayI s.pos x.f0 s.per = u1 at *
  generalize wayI s.pos y.f0 s.per = u2 at *
  go_enter Try.func78, Try.ntmps78
  go_upto_region 1 with (first | ((with_reducible refine gate_dst (N := 3) rfl ?_); refine box_event ?hg (N := 3) ?hd (cs := #[.int .i64 x.f0, .int .i64 x.f1]) (t := 77) ?hr ?_; (case hd => rfl); (case hg => rfl); (case hr => first | (go_simp; done) | (go_simp; rfl)); intro gx hgx w5 hbox hb; have HBgx := Aside0.mk hb; have HXgx := Aside0.mk hbox; have HIgx := Aside0.mk hgx; clear hb hbox hgx) | ((with_reducible refine gate_dst (N := 4) rfl ?_); refine box_event ?hg (N := 4) ?hd (cs := #[.int .i64 y.f0, .int .i64 y.f1]) (t := 77) ?hr ?_; (case hd => rfl); (case hg => rfl); (case hr => first | (go_simp; done) | (go_simp; rfl)); intro gy hgy w6 hbox hb; have HBgy := Aside0.mk hb; have HXgy := Aside0.mk hbox; have HIgy := Aside0.mk hgy; clear hb hbox hgy))
  have HBq : Aside0 (Below w.heap.size w w6) := ⟨below_step HBgx.out HBgy.out⟩
  have cq := pw_cell_below HBq.out HQ.out
  have cx : w6.cell? ⟨gx, 0, none⟩ = some (.int .i64 x.f0) := pw_cell_below HBgy.out ((blk_cell HXgx.out 0).trans rfl)
  have cy : w6.cell? ⟨gy, 0, none⟩ = some (.int .i64 y.f0) := (blk_cell HXgy.out 0).trans rfl
  refine start_ (n := 10) (S := fun w' => w'.cell? ⟨q, 0, none⟩ = some (.pointer (some ⟨g, 0, none⟩)) ∧ w'.cell? ⟨gx, 0, none⟩ = some (.int .i64 x.f0) ∧ w'.cell? ⟨gy, 0, none⟩ = some (.int .i64 y.f0)) (ds := [7]) #[false, false, false, false, false, false, false, false, false, false] (by kernel_rfl) rfl rfl ⟨cq, cx, cy⟩ (fun hHeld => ?_); refine with_tabW near_tab1 near_bits1 (fun HT_ HW_ => ?_)
  refine take_ (i := 0) (N := some 7) (v := ?_) (a' := ?_) #[true, false, false, false, false, false, false, false, false, false] rfl rfl (take_ofW HT_.out HW_.out (by kernel_rfl)) (fun _ _ _ h => h) (Or.inl ⟨by rfl, ?_⟩) hHeld ?_ ?_
  rotate_left
  · rintro w' ⟨s0, s1, s2⟩
    go_simp
    with_reducible rfl
  rotate_left
  · simp only [Act.put, List.setIfInBounds_toArray, List.set_cons_zero, List.set_cons_succ]
    rfl
  refine pure_ (i := 1) (N := some 8) (v := ?_) (a' := ?_) #[true, true, false, false, false, false, false, false, false, false] rfl rfl (any_of HT_.out (by kernel_rfl)) (fun _ _ _ h => h) (Or.inl ⟨by rfl, ?_⟩) ?_ ?_
  rotate_left
  · intro w'
    go_simp
    with_reducible rfl
  rotate_left
  · simp only [Act.put, List.setIfInBounds_toArray, List.set_cons_zero, List.set_cons_succ]
    rfl
  refine take_ (i := 2) (N := some 9) (v := ?_) (a' := ?_) #[true, true, true, false, false, false, false, false, false, false] rfl rfl (take_ofW HT_.out HW_.out (by kernel_rfl)) (fun _ _ _ h => h) (Or.inl ⟨by rfl, ?_⟩) hHeld ?_ ?_
  rotate_left
  · rintro w' ⟨s0, s1, s2⟩
    go_simp
    with_reducible rfl
  rotate_left
  · simp only [Act.put, List.setIfInBounds_toArray, List.set_cons_zero, List.set_cons_succ]
    rfl
  refine take_ (i := 4) (N := some 11) (v := ?_) (a' := ?_) #[true, true, true, false, true, false, false, false, false, false] rfl rfl (take_ofW HT_.out HW_.out (by kernel_rfl)) (fun _ _ _ h => h) (Or.inl ⟨by rfl, ?_⟩) hHeld ?_ ?_
  rotate_left
  · rintro w' ⟨s0, s1, s2⟩
    go_simp
    with_reducible rfl
  rotate_left
  · simp only [Act.put, List.setIfInBounds_toArray, List.set_cons_zero, List.set_cons_succ]
    rfl
  refine pure_ (i := 5) (N := some 12) (v := ?_) (a' := ?_) #[true, true, true, false, true, true, false, false, false, false] rfl rfl (any_of HT_.out (by kernel_rfl)) (fun _ _ _ h => h) (Or.inl ⟨by rfl, ?_⟩) ?_ ?_
  rotate_left
  · intro w'
    go_simp
    with_reducible rfl
  rotate_left
  · simp only [Act.put, List.setIfInBounds_toArray, List.set_cons_zero, List.set_cons_succ]
    rfl
  refine take_ (i := 6) (N := some 13) (v := ?_) (a' := ?_) #[true, true, true, false, true, true, true, false, false, false] rfl rfl (take_ofW HT_.out HW_.out (by kernel_rfl)) (fun _ _ _ h => h) (Or.inl ⟨by rfl, ?_⟩) hHeld ?_ ?_
  rotate_left
  · rintro w' ⟨s0, s1, s2⟩
    go_simp
    with_reducible rfl
  rotate_left
  · simp only [Act.put, List.setIfInBounds_toArray, List.set_cons_zero, List.set_cons_succ]
    rfl
  refine one_ (i := 3) (N := some 10) #[true, true, true, true, true, true, true, false, false, false] rfl rfl (one_of HT_.out (by kernel_rfl)) (by decide) (fun K hK => ?_)
  refine goes_ Try.func43 (by kernel_rfl) rfl #[.pointer (some ⟨g, 0, none⟩), .int .i64 x.f0] (by rfl) rfl rfl (by (try simp only [List.map_toArray, List.map_cons, List.map_nil]); rfl) ?_
  with_reducible refine (hw1 _ (below_drew HBq.out)).mono ?_
  rintro e w2 ⟨rfl, hb2⟩
  have HB2 : Aside0 (Below w.heap.size w w2) := ⟨below_step (below_drew HBq.out) hb2⟩
  refine ⟨_, rfl, ?_⟩
  have a0 := pw_cell_below hb2 hHeld.1
  have a1 := pw_cell_below hb2 hHeld.2.1
  have a2 := pw_cell_below hb2 hHeld.2.2
  clear hHeld
  refine hK.out _ _ ⟨a0, a1, a2⟩ (fun hHeld => ?_)
  clear hK K
  refine norm_ (a' := ?_) ?_ ?_
  rotate_left
  · show Act.put _ (some 10) _ = _
    simp only [Act.put, List.setIfInBounds_toArray, List.set_cons_zero, List.set_cons_succ]
    rfl
  refine last_ (i := 7) (N := some 14) #[true, true, true, true, true, true, true, true, false, false] rfl rfl (one_of HT_.out (by kernel_rfl)) (by decide) (fun K hK => ?_)
  refine goes_ Try.func43 (by kernel_rfl) rfl #[.pointer (some ⟨g, 0, none⟩), .int .i64 y.f0] (by rfl) rfl rfl (by (try simp only [List.map_toArray, List.map_cons, List.map_nil]); rfl) ?_
  with_reducible refine (hw2 _ HB2.out).mono ?_
  rintro e w3 ⟨rfl, hb3⟩
  have HB3 : Aside0 (Below w.heap.size w w3) := ⟨below_step HB2.out hb3⟩
  refine ⟨_, rfl, ?_⟩
  have b0 := pw_cell_below hb3 a1
  have b1 := pw_cell_below hb3 a2
  clear hHeld a0 a1 a2
  refine hK.out _ _ ?_
  clear hK K
  refine norm_ (a' := ?_) ?_ ?_
  rotate_left
  · show Act.put _ (some 14) _ = _
    simp only [Act.put, List.setIfInBounds_toArray, List.set_cons_zero, List.set_cons_succ]
    rfl
  refine pure_ (i := 8) (N := some 15) (v := ?_) (a' := ?_) #[true, true, true, true, true, true, true, true, true, false] rfl rfl (any_of HT_.out (by kernel_rfl)) (fun _ _ _ h => h) (Or.inl ⟨by rfl, ?_⟩) ?_ ?_
  rotate_left
  · intro w'
    go_simp
    with_reducible rfl
  rotate_left
  · simp only [Act.put, List.setIfInBounds_toArray, List.set_cons_zero, List.set_cons_succ, i64_w]
    rfl
  refine pure_ (i := 9) (N := some 6) (v := ?_) (a' := ?_) #[true, true, true, true, true, true, true, true, true, true] rfl rfl (any_of HT_.out (by kernel_rfl)) (fun _ _ _ h => h) (Or.inl ⟨by rfl, ?_⟩) ?_ ?_
  rotate_left
  · intro w'
    go_simp
    with_reducible rfl
  rotate_left
  · simp only [Act.put, List.setIfInBounds_toArray, List.set_cons_zero, List.set_cons_succ]
    rfl
  refine done_ (done_of HT_.out (by kernel_rfl)) ?_
  rw [HD.out]
  by_cases h1 : d < 0
  · have d1 : decide (d < 0) = true := by simpa using h1
    go_wp2
    go_ret
    exact ⟨by rw [d1]; rfl, HB3.out⟩
  · have d1 : decide (d < 0) = false := by simpa using h1
    by_cases h2 : d = 0
    · have d2 : (d == 0) = true := by simpa using h2
      clear h1 h2
      go_wp2
      go_ret
      exact ⟨by rw [d1, d2]; simp, HB3.out⟩
    · have d2 : (d == 0) = false := by simpa using h2
      clear h1 h2
      go_wp2
      go_ret
      exact ⟨by rw [d1, d2]; rfl, HB3.out⟩
set_option maxRecDepth 100000 in
set_option maxHeartbeats 4000000 in
theorem best_low {w : World} (A : Option Addr) (c : Nat) (m : List S77) (hC : Kd.C k77 w A m.length m) (hn : m.length < 1000) :
    Calls Try.prog 77 #[.slice A m.length c, .func (.func 81) #[] #[]] w fun e w' => e = .returned (.tuple #[.agg #[.int .i64 (bst lowB m).f0, .int .i64 (bst lowB m).f1], .bool (decide (0 < m.length))]) ∧ Below w.heap.size w w' := by
  have HC := Aside0.mk hC
  have HN := Aside0.mk hn
  clear hC hn
  go_enter Try.func77, Try.ntmps77
  go_upto_region 1 with (first | ((with_reducible refine gate_dst (N := 4) rfl ?_); refine box_event ?hg (N := 4) ?hd (cs := #[.int .i64 0, .int .i64 0]) (t := 77) ?hr ?_; (case hd => rfl); (case hg => rfl); (case hr => first | (go_simp; done) | (go_simp; rfl)); intro go hgo w5 hbox hb7; have z0 : w5.cell? ⟨go, 0, none⟩ = some (.int .i64 0) := (blk_cell hbox 0).trans rfl; have z1 : w5.cell? ⟨go, 1, none⟩ = some (.int .i64 0) := (blk_cell hbox 1).trans rfl; have y0 := blk_frozen hbox 0; have y1 := blk_frozen hbox 1; have HXgo := Aside0.mk hbox; have HIgo := Aside0.mk hgo; have HBgo := Aside0.mk hb7; clear hbox hgo hb7))
  have hgo0 : w.heap.size ≤ go := Nat.le_of_eq HIgo.out.symm
  clear z0 z1 y0 y1
  go_wp2
  go_loopg [5, 10] m.length (fun kq v5 v10 w' => ∃ i : Nat, i + kq = m.length ∧ v5 = .bool (decide (0 < i)) ∧ v10 = .int .i64 (i : Int) ∧ Aside0 (w'.heap[go]? = some (.cells #[.int .i64 (bst lowB (m.take i)).f0, .int .i64 (bst lowB (m.take i)).f1] 77 (0, 0))) ∧ Aside0 (Below w.heap.size w w'))
  case atStart => exact ⟨0, by omega, rfl, rfl, HXgo, HBgo⟩
  case round =>
    obtain ⟨i, hi, rfl, rfl, hOut, hB⟩ := hrel
    clear HXgo HBgo HIgo
    cases gk with
    | zero =>
      obtain rfl : i = m.length := by omega
      have c0 : decide ((m.length : Int) < (m.length : Int)) = false := by simp
      have hO := hOut.out
      rw [List.take_length] at hO
      have o0 : wr.cell? ⟨go, 0, none⟩ = some (.int .i64 (bst lowB m).f0) := (blk_cell hO 0).trans rfl
      have o1 : wr.cell? ⟨go, 1, none⟩ = some (.int .i64 (bst lowB m).f1) := (blk_cell hO 1).trans rfl
      have f0 := blk_frozen hO 0
      have f1 := blk_frozen hO 1
      have hO2 : ((wr.setCell ⟨go, 0, none⟩ (.int .i64 (bst lowB m).f0)).setCell ⟨go, 1, none⟩ (.int .i64 (bst lowB m).f1)).heap[go]? = some (.cells #[.int .i64 (bst lowB m).f0, .int .i64 (bst lowB m).f1] 77 (0, 0)) := blk_put (blk_put hO 0 _ rfl) 1 _ rfl
      have HO2 := Aside0.mk hO2
      clear hO hO2
      go_wp2
      (try simp only [Exit.inBlock, Exit.then])
      refine bodyPost_ret (ret_cell_tmp rfl _ _ go (bst lowB m) rfl HO2.out) rfl ?_
      exact ⟨rfl, (hB.out.setCell (p := ⟨go, 0, none⟩) hgo0 _).setCell (p := ⟨go, 1, none⟩) hgo0 _⟩
    | succ k1 =>
      have hlt : i < m.length := by omega
      have c0 : decide ((i : Int) < (m.length : Int)) = true := by simp; omega
      have p123 : 0 ≤ (i : Int) := by omega
      have q123 : (i : Int) < (m.length : Int) := by omega
      obtain ⟨ad, e, hx0, hx1⟩ := at_T77 (Kd.C_below HC.out hB.out) (i : Int) p123 q123
      cases e
      have hrd : rd_T77 m (i : Int) = m[i] := by simp [rd_T77, List.getD_eq_getElem?_getD, hlt]
      rw [hrd] at hx0 hx1
      have htk : bst lowB (m.take (i + 1)) = if i = 0 then m[i] else if lowB m[i] (bst lowB (m.take i)) = true then m[i] else bst lowB (m.take i) := by
        rw [List.take_succ_eq_append_getElem hlt]
        by_cases h0 : i = 0
        · subst h0; simp [bst]
        · rw [if_neg h0, bst_snoc _ _ _ (by rw [List.length_take]; omega)]
      obtain ⟨x, hx⟩ : ∃ x, m[i] = x := ⟨_, rfl⟩
      obtain ⟨b0, hb0⟩ : ∃ b0, bst lowB (m.take i) = b0 := ⟨_, rfl⟩
      rw [hb0] at hOut htk
      rw [hx] at hx0 hx1 htk
      have HTK := Aside0.mk htk
      rw [Int.toNat_natCast] at hx0 hx1
      have ew : Aside0 (wrap64 ((i : Int) + 1) = ((i + 1 : Nat) : Int)) := ⟨by have := HN.out; unfold wrap64; omega⟩
      replace p123 := eq_true p123
      replace q123 := eq_true q123
      clear htk hb0 hx hrd
      go_upto_region 4 with (first | ((with_reducible refine gate_dst (N := 7) rfl ?_); refine box_event ?hg (N := 7) ?hd (cs := #[.int .i64 0, .int .i64 0]) (t := 77) ?hr ?_; (case hd => rfl); (case hg => rfl); (case hr => first | (go_simp; done) | (go_simp; rfl)); intro gi hgi w7 hbox hb7; have z0 : w7.cell? ⟨gi, 0, none⟩ = some (.int .i64 0) := (blk_cell hbox 0).trans rfl; have z1 : w7.cell? ⟨gi, 1, none⟩ = some (.int .i64 0) := (blk_cell hbox 1).trans rfl; have y0 := blk_frozen hbox 0; have y1 := blk_frozen hbox 1; have HXgi := Aside0.mk hbox; have HIgi := Aside0.mk hgi; have HBgi := Aside0.mk hb7; clear hbox hgi hb7))
      have hi8 : ((w7.setCell ⟨gi, 0, none⟩ (.int .i64 x.f0)).setCell ⟨gi, 1, none⟩ (.int .i64 x.f1)).heap[gi]? = some (.cells #[.int .i64 x.f0, .int .i64 x.f1] 77 (0, 0)) := blk_put (blk_put HXgi.out 0 _ rfl) 1 _ rfl
      have hgi2 : wr.heap.size ≤ gi := Nat.le_of_eq HIgi.out.symm
      have hb8 : Below wr.heap.size wr ((w7.setCell ⟨gi, 0, none⟩ (.int .i64 x.f0)).setCell ⟨gi, 1, none⟩ (.int .i64 x.f1)) := (HBgi.out.setCell (p := ⟨gi, 0, none⟩) hgi2 _).setCell (p := ⟨gi, 1, none⟩) hgi2 _
      clear z0 z1 y0 y1 hx0 hx1
      generalize ((w7.setCell ⟨gi, 0, none⟩ (.int .i64 x.f0)).setCell ⟨gi, 1, none⟩ (.int .i64 x.f1)) = w8 at *
      have x0 : w8.cell? ⟨gi, 0, none⟩ = some (.int .i64 x.f0) := (blk_cell hi8 0).trans rfl
      have x1 : w8.cell? ⟨gi, 1, none⟩ = some (.int .i64 x.f1) := (blk_cell hi8 1).trans rfl
      have ho8 := blk_below hOut.out hb8
      have o0 : w8.cell? ⟨go, 0, none⟩ = some (.int .i64 b0.f0) := (blk_cell ho8 0).trans rfl
      have o1 : w8.cell? ⟨go, 1, none⟩ = some (.int .i64 b0.f1) := (blk_cell ho8 1).trans rfl
      have HB8 := Aside0.mk (below_step hB.out hb8)
      have HO8 := Aside0.mk ho8
      by_cases hi0 : i = 0
      · subst hi0
        have d0 : ((0 : Int) == 0) = true := rfl
        have f0 := blk_frozen ho8 0
        have f1 := blk_frozen ho8 1
        have HE : Aside0 (bst lowB (m.take (0 + 1)) = x) := ⟨by rw [HTK.out, if_pos rfl]⟩
        clear hi8 hb8 ho8 HTK
        go_wp2
        go_roundg k1
        case rel => exact ⟨0 + 1, by omega, rfl, by first | rfl | rw [ew.out], ⟨by rw [HE.out]; exact blk_put (blk_put HO8.out 0 _ rfl) 1 _ rfl⟩, ⟨(HB8.out.setCell (p := ⟨go, 0, none⟩) hgo0 _).setCell (p := ⟨go, 1, none⟩) hgo0 _⟩⟩
        all_goals omega
      · have d0 : ((i : Int) == 0) = false := by simp; omega
        have di : decide (0 < i) = true := by simp; omega
        have di1 : decide (0 < i + 1) = true := by simp
        have HI0 := Aside0.mk hi0
        have hcall := lower_calls x b0 w8
        clear hi8 hb8 ho8 hi0
        cases hp : lowB x b0 with
        | true =>
          have HE : Aside0 (bst lowB (m.take (i + 1)) = x) := ⟨by rw [HTK.out, if_neg HI0.out, if_pos hp]⟩
          rw [hp] at hcall
          go_wp2_with (go_at_call 81; with_reducible refine hcall.mono ?_; rintro e w9 ⟨rfl, hb9⟩; have v0 := pw_cell_below hb9 x0; have v1 := pw_cell_below hb9 x1; have v2 := pw_cell_below hb9 o0; have v3 := pw_cell_below hb9 o1; have f0 := blk_frozen (blk_below HO8.out hb9) 0; have f1 := blk_frozen (blk_below HO8.out hb9) 1; have HB9 := Aside0.mk hb9; clear hb9)
          go_roundg k1
          case rel => exact ⟨i + 1, by omega, by rw [di1], by first | rfl | rw [ew.out], ⟨by rw [HE.out]; exact blk_put (blk_put (blk_below HO8.out HB9.out) 0 _ rfl) 1 _ rfl⟩, ⟨((below_step HB8.out HB9.out).setCell (p := ⟨go, 0, none⟩) hgo0 _).setCell (p := ⟨go, 1, none⟩) hgo0 _⟩⟩
          all_goals omega
        | false =>
          have HE : Aside0 (bst lowB (m.take (i + 1)) = b0) := ⟨by rw [HTK.out, if_neg HI0.out, if_neg (by rw [hp]; decide)]⟩
          rw [hp] at hcall
          go_wp2_with (go_at_call 81; with_reducible refine hcall.mono ?_; rintro e w9 ⟨rfl, hb9⟩; have HB9 := Aside0.mk hb9; clear hb9)
          go_roundg k1
          case rel => exact ⟨i + 1, by omega, by rw [di1], by first | rfl | rw [ew.out], ⟨by rw [HE.out]; exact blk_below HO8.out HB9.out⟩, ⟨below_step HB8.out HB9.out⟩⟩
          all_goals omega
set_option maxRecDepth 100000 in
set_option maxHeartbeats 4000000 in
theorem best_high {w : World} (A : Option Addr) (c : Nat) (m : List S77) (hC : Kd.C k77 w A m.length m) (hn : m.length < 1000) :
    Calls Try.prog 77 #[.slice A m.length c, .func (.func 88) #[] #[]] w fun e w' => e = .returned (.tuple #[.agg #[.int .i64 (bst higB m).f0, .int .i64 (bst higB m).f1], .bool (decide (0 < m.length))]) ∧ Below w.heap.size w w' := by
  have HC := Aside0.mk hC
  have HN := Aside0.mk hn
  clear hC hn
  go_enter Try.func77, Try.ntmps77
  go_upto_region 1 with (first | ((with_reducible refine gate_dst (N := 4) rfl ?_); refine box_event ?hg (N := 4) ?hd (cs := #[.int .i64 0, .int .i64 0]) (t := 77) ?hr ?_; (case hd => rfl); (case hg => rfl); (case hr => first | (go_simp; done) | (go_simp; rfl)); intro go hgo w5 hbox hb7; have z0 : w5.cell? ⟨go, 0, none⟩ = some (.int .i64 0) := (blk_cell hbox 0).trans rfl; have z1 : w5.cell? ⟨go, 1, none⟩ = some (.int .i64 0) := (blk_cell hbox 1).trans rfl; have y0 := blk_frozen hbox 0; have y1 := blk_frozen hbox 1; have HXgo := Aside0.mk hbox; have HIgo := Aside0.mk hgo; have HBgo := Aside0.mk hb7; clear hbox hgo hb7))
  have hgo0 : w.heap.size ≤ go := Nat.le_of_eq HIgo.out.symm
  clear z0 z1 y0 y1
  go_wp2
  go_loopg [5, 10] m.length (fun kq v5 v10 w' => ∃ i : Nat, i + kq = m.length ∧ v5 = .bool (decide (0 < i)) ∧ v10 = .int .i64 (i : Int) ∧ Aside0 (w'.heap[go]? = some (.cells #[.int .i64 (bst higB (m.take i)).f0, .int .i64 (bst higB (m.take i)).f1] 77 (0, 0))) ∧ Aside0 (Below w.heap.size w w'))
  case atStart => exact ⟨0, by omega, rfl, rfl, HXgo, HBgo⟩
  case round =>
    obtain ⟨i, hi, rfl, rfl, hOut, hB⟩ := hrel
    clear HXgo HBgo HIgo
    cases gk with
    | zero =>
      obtain rfl : i = m.length := by omega
      have c0 : decide ((m.length : Int) < (m.length : Int)) = false := by simp
      have hO := hOut.out
      rw [List.take_length] at hO
      have o0 : wr.cell? ⟨go, 0, none⟩ = some (.int .i64 (bst higB m).f0) := (blk_cell hO 0).trans rfl
      have o1 : wr.cell? ⟨go, 1, none⟩ = some (.int .i64 (bst higB m).f1) := (blk_cell hO 1).trans rfl
      have f0 := blk_frozen hO 0
      have f1 := blk_frozen hO 1
      have hO2 : ((wr.setCell ⟨go, 0, none⟩ (.int .i64 (bst higB m).f0)).setCell ⟨go, 1, none⟩ (.int .i64 (bst higB m).f1)).heap[go]? = some (.cells #[.int .i64 (bst higB m).f0, .int .i64 (bst higB m).f1] 77 (0, 0)) := blk_put (blk_put hO 0 _ rfl) 1 _ rfl
      have HO2 := Aside0.mk hO2
      clear hO hO2
      go_wp2
      (try simp only [Exit.inBlock, Exit.then])
      refine bodyPost_ret (ret_cell_tmp rfl _ _ go (bst higB m) rfl HO2.out) rfl ?_
      exact ⟨rfl, (hB.out.setCell (p := ⟨go, 0, none⟩) hgo0 _).setCell (p := ⟨go, 1, none⟩) hgo0 _⟩
    | succ k1 =>
      have hlt : i < m.length := by omega
      have c0 : decide ((i : Int) < (m.length : Int)) = true := by simp; omega
      have p123 : 0 ≤ (i : Int) := by omega
      have q123 : (i : Int) < (m.length : Int) := by omega
      obtain ⟨ad, e, hx0, hx1⟩ := at_T77 (Kd.C_below HC.out hB.out) (i : Int) p123 q123
      cases e
      have hrd : rd_T77 m (i : Int) = m[i] := by simp [rd_T77, List.getD_eq_getElem?_getD, hlt]
      rw [hrd] at hx0 hx1
      have htk : bst higB (m.take (i + 1)) = if i = 0 then m[i] else if higB m[i] (bst higB (m.take i)) = true then m[i] else bst higB (m.take i) := by
        rw [List.take_succ_eq_append_getElem hlt]
        by_cases h0 : i = 0
        · subst h0; simp [bst]
        · rw [if_neg h0, bst_snoc _ _ _ (by rw [List.length_take]; omega)]
      obtain ⟨x, hx⟩ : ∃ x, m[i] = x := ⟨_, rfl⟩
      obtain ⟨b0, hb0⟩ : ∃ b0, bst higB (m.take i) = b0 := ⟨_, rfl⟩
      rw [hb0] at hOut htk
      rw [hx] at hx0 hx1 htk
      have HTK := Aside0.mk htk
      rw [Int.toNat_natCast] at hx0 hx1
      have ew : Aside0 (wrap64 ((i : Int) + 1) = ((i + 1 : Nat) : Int)) := ⟨by have := HN.out; unfold wrap64; omega⟩
      replace p123 := eq_true p123
      replace q123 := eq_true q123
      clear htk hb0 hx hrd
      go_upto_region 4 with (first | ((with_reducible refine gate_dst (N := 7) rfl ?_); refine box_event ?hg (N := 7) ?hd (cs := #[.int .i64 0, .int .i64 0]) (t := 77) ?hr ?_; (case hd => rfl); (case hg => rfl); (case hr => first | (go_simp; done) | (go_simp; rfl)); intro gi hgi w7 hbox hb7; have z0 : w7.cell? ⟨gi, 0, none⟩ = some (.int .i64 0) := (blk_cell hbox 0).trans rfl; have z1 : w7.cell? ⟨gi, 1, none⟩ = some (.int .i64 0) := (blk_cell hbox 1).trans rfl; have y0 := blk_frozen hbox 0; have y1 := blk_frozen hbox 1; have HXgi := Aside0.mk hbox; have HIgi := Aside0.mk hgi; have HBgi := Aside0.mk hb7; clear hbox hgi hb7))
      have hi8 : ((w7.setCell ⟨gi, 0, none⟩ (.int .i64 x.f0)).setCell ⟨gi, 1, none⟩ (.int .i64 x.f1)).heap[gi]? = some (.cells #[.int .i64 x.f0, .int .i64 x.f1] 77 (0, 0)) := blk_put (blk_put HXgi.out 0 _ rfl) 1 _ rfl
      have hgi2 : wr.heap.size ≤ gi := Nat.le_of_eq HIgi.out.symm
      have hb8 : Below wr.heap.size wr ((w7.setCell ⟨gi, 0, none⟩ (.int .i64 x.f0)).setCell ⟨gi, 1, none⟩ (.int .i64 x.f1)) := (HBgi.out.setCell (p := ⟨gi, 0, none⟩) hgi2 _).setCell (p := ⟨gi, 1, none⟩) hgi2 _
      clear z0 z1 y0 y1 hx0 hx1
      generalize ((w7.setCell ⟨gi, 0, none⟩ (.int .i64 x.f0)).setCell ⟨gi, 1, none⟩ (.int .i64 x.f1)) = w8 at *
      have x0 : w8.cell? ⟨gi, 0, none⟩ = some (.int .i64 x.f0) := (blk_cell hi8 0).trans rfl
      have x1 : w8.cell? ⟨gi, 1, none⟩ = some (.int .i64 x.f1) := (blk_cell hi8 1).trans rfl
      have ho8 := blk_below hOut.out hb8
      have o0 : w8.cell? ⟨go, 0, none⟩ = some (.int .i64 b0.f0) := (blk_cell ho8 0).trans rfl
      have o1 : w8.cell? ⟨go, 1, none⟩ = some (.int .i64 b0.f1) := (blk_cell ho8 1).trans rfl
      have HB8 := Aside0.mk (below_step hB.out hb8)
      have HO8 := Aside0.mk ho8
      by_cases hi0 : i = 0
      · subst hi0
        have d0 : ((0 : Int) == 0) = true := rfl
        have f0 := blk_frozen ho8 0
        have f1 := blk_frozen ho8 1
        have HE : Aside0 (bst higB (m.take (0 + 1)) = x) := ⟨by rw [HTK.out, if_pos rfl]⟩
        clear hi8 hb8 ho8 HTK
        go_wp2
        go_roundg k1
        case rel => exact ⟨0 + 1, by omega, rfl, by first | rfl | rw [ew.out], ⟨by rw [HE.out]; exact blk_put (blk_put HO8.out 0 _ rfl) 1 _ rfl⟩, ⟨(HB8.out.setCell (p := ⟨go, 0, none⟩) hgo0 _).setCell (p := ⟨go, 1, none⟩) hgo0 _⟩⟩
        all_goals omega
      · have d0 : ((i : Int) == 0) = false := by simp; omega
        have di : decide (0 < i) = true := by simp; omega
        have di1 : decide (0 < i + 1) = true := by simp
        have HI0 := Aside0.mk hi0
        have hcall := higher_calls x b0 w8
        clear hi8 hb8 ho8 hi0
        cases hp : higB x b0 with
        | true =>
          have HE : Aside0 (bst higB (m.take (i + 1)) = x) := ⟨by rw [HTK.out, if_neg HI0.out, if_pos hp]⟩
          rw [hp] at hcall
          go_wp2_with (go_at_call 88; with_reducible refine hcall.mono ?_; rintro e w9 ⟨rfl, hb9⟩; have v0 := pw_cell_below hb9 x0; have v1 := pw_cell_below hb9 x1; have v2 := pw_cell_below hb9 o0; have v3 := pw_cell_below hb9 o1; have f0 := blk_frozen (blk_below HO8.out hb9) 0; have f1 := blk_frozen (blk_below HO8.out hb9) 1; have HB9 := Aside0.mk hb9; clear hb9)
          go_roundg k1
          case rel => exact ⟨i + 1, by omega, by rw [di1], by first | rfl | rw [ew.out], ⟨by rw [HE.out]; exact blk_put (blk_put (blk_below HO8.out HB9.out) 0 _ rfl) 1 _ rfl⟩, ⟨((below_step HB8.out HB9.out).setCell (p := ⟨go, 0, none⟩) hgo0 _).setCell (p := ⟨go, 1, none⟩) hgo0 _⟩⟩
          all_goals omega
        | false =>
          have HE : Aside0 (bst higB (m.take (i + 1)) = b0) := ⟨by rw [HTK.out, if_neg HI0.out, if_neg (by rw [hp]; decide)]⟩
          rw [hp] at hcall
          go_wp2_with (go_at_call 88; with_reducible refine hcall.mono ?_; rintro e w9 ⟨rfl, hb9⟩; have HB9 := Aside0.mk hb9; clear hb9)
          go_roundg k1
          case rel => exact ⟨i + 1, by omega, by rw [di1], by first | rfl | rw [ew.out], ⟨by rw [HE.out]; exact blk_below HO8.out HB9.out⟩, ⟨below_step HB8.out HB9.out⟩⟩
          all_goals omega
theorem bst_mem (p : S77 → S77 → Bool) : ∀ (l : List S77), 0 < l.length → bst p l ∈ l
  | [], h => absurd h (by simp)
  | x :: t, _ => by
    unfold bst
    have : ∀ (t : List S77) (x : S77), t.foldl (fun o y => if p y o = true then y else o) x ∈ x :: t := by
      intro t
      induction t with
      | nil => intro x; simp
      | cons y t ih =>
        intro x
        rw [List.foldl_cons]
        have h2 := ih (if p y x = true then y else x)
        rcases List.mem_cons.1 h2 with h | h
        · rw [h]; split <;> simp
        · exact List.mem_cons_of_mem _ (List.mem_cons_of_mem _ h)
    exact this t x
set_option maxRecDepth 100000 in
set_option maxHeartbeats 4000000 in
theorem best_near {w : World} {B : Nat} {P : Nat → Prop} {g q : Nat} {s : Sc} {l : List S77} (A : Option Addr) (c : Nat) (m : List S77) (hC : Kd.C k77 w A m.length m) (hn : m.length < 1000) (h : AS B P w g s l) (hq : w.cell? ⟨q, 0, none⟩ = some (.pointer (some ⟨g, 0, none⟩))) (hpos : Bl s.pos) (hper : Tr s.per) (hall : ∀ x ∈ m, Bl x.f0) :
    Calls Try.prog 77 #[.slice A m.length c, .func (.func 78) #[] #[.pointer (some ⟨q, 0, none⟩)]] w fun e w' => e = .returned (.tuple #[.agg #[.int .i64 (bst (nearB s) m).f0, .int .i64 (bst (nearB s) m).f1], .bool (decide (0 < m.length))]) ∧ Below w.heap.size w w' := by
  have HC := Aside0.mk hC
  have HN := Aside0.mk hn
  have HS := Aside0.mk h
  have HQ := Aside0.mk hq
  have HALL := Aside0.mk hall
  clear h hq hall
  clear hC hn
  go_enter Try.func77, Try.ntmps77
  go_upto_region 1 with (first | ((with_reducible refine gate_dst (N := 4) rfl ?_); refine box_event ?hg (N := 4) ?hd (cs := #[.int .i64 0, .int .i64 0]) (t := 77) ?hr ?_; (case hd => rfl); (case hg => rfl); (case hr => first | (go_simp; done) | (go_simp; rfl)); intro go hgo w5 hbox hb7; have z0 : w5.cell? ⟨go, 0, none⟩ = some (.int .i64 0) := (blk_cell hbox 0).trans rfl; have z1 : w5.cell? ⟨go, 1, none⟩ = some (.int .i64 0) := (blk_cell hbox 1).trans rfl; have y0 := blk_frozen hbox 0; have y1 := blk_frozen hbox 1; have HXgo := Aside0.mk hbox; have HIgo := Aside0.mk hgo; have HBgo := Aside0.mk hb7; clear hbox hgo hb7))
  have hgo0 : w.heap.size ≤ go := Nat.le_of_eq HIgo.out.symm
  clear z0 z1 y0 y1
  go_wp2
  go_loopg [5, 10] m.length (fun kq v5 v10 w' => ∃ i : Nat, i + kq = m.length ∧ v5 = .bool (decide (0 < i)) ∧ v10 = .int .i64 (i : Int) ∧ Aside0 (w'.heap[go]? = some (.cells #[.int .i64 (bst (nearB s) (m.take i)).f0, .int .i64 (bst (nearB s) (m.take i)).f1] 77 (0, 0))) ∧ Aside0 (Below w.heap.size w w'))
  case atStart => exact ⟨0, by omega, rfl, rfl, HXgo, HBgo⟩
  case round =>
    obtain ⟨i, hi, rfl, rfl, hOut, hB⟩ := hrel
    clear HXgo HBgo HIgo
    cases gk with
    | zero =>
      obtain rfl : i = m.length := by omega
      have c0 : decide ((m.length : Int) < (m.length : Int)) = false := by simp
      have hO := hOut.out
      rw [List.take_length] at hO
      have o0 : wr.cell? ⟨go, 0, none⟩ = some (.int .i64 (bst (nearB s) m).f0) := (blk_cell hO 0).trans rfl
      have o1 : wr.cell? ⟨go, 1, none⟩ = some (.int .i64 (bst (nearB s) m).f1) := (blk_cell hO 1).trans rfl
      have f0 := blk_frozen hO 0
      have f1 := blk_frozen hO 1
      have hO2 : ((wr.setCell ⟨go, 0, none⟩ (.int .i64 (bst (nearB s) m).f0)).setCell ⟨go, 1, none⟩ (.int .i64 (bst (nearB s) m).f1)).heap[go]? = some (.cells #[.int .i64 (bst (nearB s) m).f0, .int .i64 (bst (nearB s) m).f1] 77 (0, 0)) := blk_put (blk_put hO 0 _ rfl) 1 _ rfl
      have HO2 := Aside0.mk hO2
      clear hO hO2
      go_wp2
      (try simp only [Exit.inBlock, Exit.then])
      refine bodyPost_ret (ret_cell_tmp rfl _ _ go (bst (nearB s) m) rfl HO2.out) rfl ?_
      exact ⟨rfl, (hB.out.setCell (p := ⟨go, 0, none⟩) hgo0 _).setCell (p := ⟨go, 1, none⟩) hgo0 _⟩
    | succ k1 =>
      have hlt : i < m.length := by omega
      have c0 : decide ((i : Int) < (m.length : Int)) = true := by simp; omega
      have p123 : 0 ≤ (i : Int) := by omega
      have q123 : (i : Int) < (m.length : Int) := by omega
      obtain ⟨ad, e, hx0, hx1⟩ := at_T77 (Kd.C_below HC.out hB.out) (i : Int) p123 q123
      cases e
      have hrd : rd_T77 m (i : Int) = m[i] := by simp [rd_T77, List.getD_eq_getElem?_getD, hlt]
      rw [hrd] at hx0 hx1
      have htk : bst (nearB s) (m.take (i + 1)) = if i = 0 then m[i] else if (nearB s) m[i] (bst (nearB s) (m.take i)) = true then m[i] else bst (nearB s) (m.take i) := by
        rw [List.take_succ_eq_append_getElem hlt]
        by_cases h0 : i = 0
        · subst h0; simp [bst]
        · rw [if_neg h0, bst_snoc _ _ _ (by rw [List.length_take]; omega)]
      obtain ⟨x, hx⟩ : ∃ x, m[i] = x := ⟨_, rfl⟩
      obtain ⟨b0, hb0⟩ : ∃ b0, bst (nearB s) (m.take i) = b0 := ⟨_, rfl⟩
      have HXB : Aside0 (Bl x.f0) := ⟨by rw [← hx]; exact HALL.out _ (List.getElem_mem hlt)⟩
      have HBB : Aside0 (i ≠ 0 → Bl b0.f0) := ⟨fun h0 => by rw [← hb0]; exact HALL.out _ (List.mem_of_mem_take (bst_mem _ _ (by rw [List.length_take]; omega)))⟩
      rw [hb0] at hOut htk
      rw [hx] at hx0 hx1 htk
      have HTK := Aside0.mk htk
      rw [Int.toNat_natCast] at hx0 hx1
      have ew : Aside0 (wrap64 ((i : Int) + 1) = ((i + 1 : Nat) : Int)) := ⟨by have := HN.out; unfold wrap64; omega⟩
      replace p123 := eq_true p123
      replace q123 := eq_true q123
      clear htk hb0 hx hrd
      go_upto_region 4 with (first | ((with_reducible refine gate_dst (N := 7) rfl ?_); refine box_event ?hg (N := 7) ?hd (cs := #[.int .i64 0, .int .i64 0]) (t := 77) ?hr ?_; (case hd => rfl); (case hg => rfl); (case hr => first | (go_simp; done) | (go_simp; rfl)); intro gi hgi w7 hbox hb7; have z0 : w7.cell? ⟨gi, 0, none⟩ = some (.int .i64 0) := (blk_cell hbox 0).trans rfl; have z1 : w7.cell? ⟨gi, 1, none⟩ = some (.int .i64 0) := (blk_cell hbox 1).trans rfl; have y0 := blk_frozen hbox 0; have y1 := blk_frozen hbox 1; have HXgi := Aside0.mk hbox; have HIgi := Aside0.mk hgi; have HBgi := Aside0.mk hb7; clear hbox hgi hb7))
      have hi8 : ((w7.setCell ⟨gi, 0, none⟩ (.int .i64 x.f0)).setCell ⟨gi, 1, none⟩ (.int .i64 x.f1)).heap[gi]? = some (.cells #[.int .i64 x.f0, .int .i64 x.f1] 77 (0, 0)) := blk_put (blk_put HXgi.out 0 _ rfl) 1 _ rfl
      have hgi2 : wr.heap.size ≤ gi := Nat.le_of_eq HIgi.out.symm
      have hb8 : Below wr.heap.size wr ((w7.setCell ⟨gi, 0, none⟩ (.int .i64 x.f0)).setCell ⟨gi, 1, none⟩ (.int .i64 x.f1)) := (HBgi.out.setCell (p := ⟨gi, 0, none⟩) hgi2 _).setCell (p := ⟨gi, 1, none⟩) hgi2 _
      clear z0 z1 y0 y1 hx0 hx1
      generalize ((w7.setCell ⟨gi, 0, none⟩ (.int .i64 x.f0)).setCell ⟨gi, 1, none⟩ (.int .i64 x.f1)) = w8 at *
      have x0 : w8.cell? ⟨gi, 0, none⟩ = some (.int .i64 x.f0) := (blk_cell hi8 0).trans rfl
      have x1 : w8.cell? ⟨gi, 1, none⟩ = some (.int .i64 x.f1) := (blk_cell hi8 1).trans rfl
      have ho8 := blk_below hOut.out hb8
      have o0 : w8.cell? ⟨go, 0, none⟩ = some (.int .i64 b0.f0) := (blk_cell ho8 0).trans rfl
      have o1 : w8.cell? ⟨go, 1, none⟩ = some (.int .i64 b0.f1) := (blk_cell ho8 1).trans rfl
      have HB8 := Aside0.mk (below_step hB.out hb8)
      have HO8 := Aside0.mk ho8
      by_cases hi0 : i = 0
      · subst hi0
        have d0 : ((0 : Int) == 0) = true := rfl
        have f0 := blk_frozen ho8 0
        have f1 := blk_frozen ho8 1
        have HE : Aside0 (bst (nearB s) (m.take (0 + 1)) = x) := ⟨by rw [HTK.out, if_pos rfl]⟩
        clear hi8 hb8 ho8 HTK
        go_wp2
        go_roundg k1
        case rel => exact ⟨0 + 1, by omega, rfl, by first | rfl | rw [ew.out], ⟨by rw [HE.out]; exact blk_put (blk_put HO8.out 0 _ rfl) 1 _ rfl⟩, ⟨(HB8.out.setCell (p := ⟨go, 0, none⟩) hgo0 _).setCell (p := ⟨go, 1, none⟩) hgo0 _⟩⟩
        all_goals omega
      · have d0 : ((i : Int) == 0) = false := by simp; omega
        have di : decide (0 < i) = true := by simp; omega
        have di1 : decide (0 < i + 1) = true := by simp
        have HI0 := Aside0.mk hi0
        have hcall := near1_calls x b0 (HS.out.below HB8.out) (pw_cell_below HB8.out HQ.out) hpos hper HXB.out (HBB.out hi0)
        clear hi8 hb8 ho8 hi0
        cases hp : (nearB s) x b0 with
        | true =>
          have HE : Aside0 (bst (nearB s) (m.take (i + 1)) = x) := ⟨by rw [HTK.out, if_neg HI0.out, if_pos hp]⟩
          rw [hp] at hcall
          go_wp2_with (go_at_call 78; with_reducible refine hcall.mono ?_; rintro e w9 ⟨rfl, hb9⟩; have v0 := pw_cell_below hb9 x0; have v1 := pw_cell_below hb9 x1; have v2 := pw_cell_below hb9 o0; have v3 := pw_cell_below hb9 o1; have f0 := blk_frozen (blk_below HO8.out hb9) 0; have f1 := blk_frozen (blk_below HO8.out hb9) 1; have HB9 := Aside0.mk hb9; clear hb9)
          go_roundg k1
          case rel => exact ⟨i + 1, by omega, by rw [di1], by first | rfl | rw [ew.out], ⟨by rw [HE.out]; exact blk_put (blk_put (blk_below HO8.out HB9.out) 0 _ rfl) 1 _ rfl⟩, ⟨((below_step HB8.out HB9.out).setCell (p := ⟨go, 0, none⟩) hgo0 _).setCell (p := ⟨go, 1, none⟩) hgo0 _⟩⟩
          all_goals omega
        | false =>
          have HE : Aside0 (bst (nearB s) (m.take (i + 1)) = b0) := ⟨by rw [HTK.out, if_neg HI0.out, if_neg (by rw [hp]; decide)]⟩
          rw [hp] at hcall
          go_wp2_with (go_at_call 78; with_reducible refine hcall.mono ?_; rintro e w9 ⟨rfl, hb9⟩; have HB9 := Aside0.mk hb9; clear hb9)
          go_roundg k1
          case rel => exact ⟨i + 1, by omega, by rw [di1], by first | rfl | rw [ew.out], ⟨by rw [HE.out]; exact blk_below HO8.out HB9.out⟩, ⟨below_step HB8.out HB9.out⟩⟩
          all_goals omega
end Go.Proofs.Ytfbjeiloefocgaa.CC
/-! Contracts of the package arm: those that are such, above, below, fifo, near, cyclic. -/
namespace Go.Proofs.Ytfbjeiloefocgaa.CC
open Go.RowKit Go.Proofs.Ytfbjeiloefocgaa.Fl Go.Proofs.Ytfbjeiloefocgaa.PL Go.Proofs.Ytfbjeiloefocgaa.PG Go.Proofs.YtfbjeiloefocgaaW.PrintWords Go.Proofs.YtfbjeiloefocgaaW.PrintLast Go.Proofs.YtfbjeiloefocgaaW.PrintMore
attribute [local go_sem] Oper.semAt_some

theorem up1_calls (b : Int) {B : Nat} {P : Nat → Prop} {w : World} {g q : Nat} {s : Sc} {l : List S77} (h : AS B P w g s l) (hq : w.cell? ⟨q, 0, none⟩ = some (.pointer (some ⟨g, 0, none⟩))) :
    Calls Try.prog 86 #[.int .i64 b, .pointer (some ⟨q, 0, none⟩)] w fun e w' => e = .returned (.bool (decide (s.pos ≤ b))) ∧ w' = w := by
  obtain ⟨-, -, v, hg, -⟩ := h
  have c2 : w.cell? ⟨g, 2, none⟩ = some (.int .i64 s.pos) := (blk_cell hg 2).trans rfl
  clear hg
  go_enter Try.func86, Try.ntmps86
  go_wp2
  go_ret
  exact ⟨rfl, rfl⟩
theorem dn1_calls (b : Int) {B : Nat} {P : Nat → Prop} {w : World} {g q : Nat} {s : Sc} {l : List S77} (h : AS B P w g s l) (hq : w.cell? ⟨q, 0, none⟩ = some (.pointer (some ⟨g, 0, none⟩))) :
    Calls Try.prog 87 #[.int .i64 b, .pointer (some ⟨q, 0, none⟩)] w fun e w' => e = .returned (.bool (decide (b ≤ s.pos))) ∧ w' = w := by
  obtain ⟨-, -, v, hg, -⟩ := h
  have c2 : w.cell? ⟨g, 2, none⟩ = some (.int .i64 s.pos) := (blk_cell hg 2).trans rfl
  clear hg
  go_enter Try.func87, Try.ntmps87
  go_wp2
  go_ret
  exact ⟨rfl, rfl⟩
def upB (s : Sc) (x : S77) : Bool := decide (s.pos ≤ x.f0)
def dnB (s : Sc) (x : S77) : Bool := decide (x.f0 ≤ s.pos)
set_option maxRecDepth 100000 in
set_option maxHeartbeats 4000000 in
theorem thoseUp_calls {B : Nat} {P : Nat → Prop} {w : World} {g q : Nat} {s : Sc} {l : List S77} (h : AS B P w g s l) (hq : w.cell? ⟨q, 0, none⟩ = some (.pointer (some ⟨g, 0, none⟩))) (hn : l.length < 1000) :
    Calls Try.prog 85 #[.pointer (some ⟨g, 0, none⟩), .func (.func 86) #[] #[.pointer (some ⟨q, 0, none⟩)]] w fun e w' => (∃ v, e = .returned v ∧ Kd.R k77 77 w' w.heap.size (fun _ => True) v (l.filter (upB s))) ∧ Below w.heap.size w w' := by
  have HS := Aside0.mk h
  have HQ := Aside0.mk hq
  have HN := Aside0.mk hn
  obtain ⟨-, -, v, hg, hR⟩ := h
  obtain ⟨A, c, rfl, -, hC⟩ := Kd.R_reads hR
  have HC := Aside0.mk hC
  have c5 : w.cell? ⟨g, 5, none⟩ = some (.slice A l.length c) := (blk_cell hg 5).trans rfl
  clear hg hR hC hn hq
  go_enter Try.func85, Try.ntmps85
  go_wp2
  go_loopg [5, 13] l.length (fun kq v5 v13 w' => ∃ i : Nat, i + kq = l.length ∧ v13 = .int .i64 (i : Int) ∧ Aside0 (Kd.R k77 77 w' w.heap.size (fun _ => True) v5 ((l.take i).filter (upB s))) ∧ Aside0 (Below w.heap.size w w'))
  case atStart => exact ⟨0, by omega, rfl, ⟨Kd.R_nil _ _ _ _ _⟩, ⟨Below.refl _ _⟩⟩
  case round =>
    obtain ⟨i, hi, rfl, hO, hB⟩ := hrel
    cases gk with
    | zero =>
      obtain rfl : i = l.length := by omega
      have c0 : decide ((l.length : Int) < (l.length : Int)) = false := by simp
      go_wp2
      go_ret
      have hO' := hO.out
      rw [List.take_length] at hO'
      exact ⟨⟨_, rfl, hO'⟩, hB.out⟩
    | succ k1 =>
      have hlt : i < l.length := by omega
      have c0 : decide ((i : Int) < (l.length : Int)) = true := by simp; omega
      have p123 : 0 ≤ (i : Int) := by omega
      have q123 : (i : Int) < (l.length : Int) := by omega
      obtain ⟨ad, e, hx0, hx1⟩ := at_T77 (Kd.C_below HC.out hB.out) (i : Int) p123 q123
      cases e
      have hrd : rd_T77 l (i : Int) = l[i] := by simp [rd_T77, List.getD_eq_getElem?_getD, hlt]
      rw [hrd] at hx0 hx1
      obtain ⟨x, hx⟩ : ∃ x, l[i] = x := ⟨_, rfl⟩
      have e3 : (l.take (i + 1)).filter (upB s) = (l.take i).filter (upB s) ++ (if (upB s) x = true then [x] else []) := by
        rw [List.take_succ_eq_append_getElem hlt, List.filter_append, hx]
        by_cases hp : (upB s) x = true <;> simp [hp]
      obtain ⟨xs, hxs⟩ : ∃ xs, (l.take i).filter (upB s) = xs := ⟨_, rfl⟩
      have el : xs.length ≤ i := by rw [← hxs]; exact Nat.le_trans (List.length_filter_le _ _) (by rw [List.length_take]; omega)
      have hO2 := hO.out
      rw [hxs] at hO2 e3
      have HO2 := Aside0.mk hO2
      have E3 := Aside0.mk e3
      have EL := Aside0.mk el
      clear e3 el hO hO2 hxs
      rw [hx] at hx0 hx1
      rw [Int.toNat_natCast] at hx0 hx1
      have ew : Aside0 (wrap64 ((i : Int) + 1) = ((i + 1 : Nat) : Int)) := ⟨by have := HN.out; unfold wrap64; omega⟩
      replace p123 := eq_true p123
      replace q123 := eq_true q123
      clear hrd hx
      go_upto_region 5 with (first | ((with_reducible refine gate_dst (N := 7) rfl ?_); refine box_event ?hg (N := 7) ?hd (cs := #[.int .i64 0, .int .i64 0]) (t := 77) ?hr ?_; (case hd => rfl); (case hg => rfl); (case hr => first | (go_simp; done) | (go_simp; rfl)); intro gi hgi w7 hbox hb7; have z0 : w7.cell? ⟨gi, 0, none⟩ = some (.int .i64 0) := (blk_cell hbox 0).trans rfl; have z1 : w7.cell? ⟨gi, 1, none⟩ = some (.int .i64 0) := (blk_cell hbox 1).trans rfl; have y0 := blk_frozen hbox 0; have y1 := blk_frozen hbox 1; have HXgi := Aside0.mk hbox; have HIgi := Aside0.mk hgi; have HBgi := Aside0.mk hb7; clear hbox hgi hb7))
      have hi8 : ((w7.setCell ⟨gi, 0, none⟩ (.int .i64 x.f0)).setCell ⟨gi, 1, none⟩ (.int .i64 x.f1)).heap[gi]? = some (.cells #[.int .i64 x.f0, .int .i64 x.f1] 77 (0, 0)) := blk_put (blk_put HXgi.out 0 _ rfl) 1 _ rfl
      have hgi2 : wr.heap.size ≤ gi := Nat.le_of_eq HIgi.out.symm
      have hb8 : Below wr.heap.size wr ((w7.setCell ⟨gi, 0, none⟩ (.int .i64 x.f0)).setCell ⟨gi, 1, none⟩ (.int .i64 x.f1)) := (HBgi.out.setCell (p := ⟨gi, 0, none⟩) hgi2 _).setCell (p := ⟨gi, 1, none⟩) hgi2 _
      clear z0 z1 y0 y1 hx0 hx1
      generalize ((w7.setCell ⟨gi, 0, none⟩ (.int .i64 x.f0)).setCell ⟨gi, 1, none⟩ (.int .i64 x.f1)) = w8 at *
      have x0 : w8.cell? ⟨gi, 0, none⟩ = some (.int .i64 x.f0) := (blk_cell hi8 0).trans rfl
      have x1 : w8.cell? ⟨gi, 1, none⟩ = some (.int .i64 x.f1) := (blk_cell hi8 1).trans rfl
      have HB8 := Aside0.mk (below_step hB.out hb8)
      have HO8 := Aside0.mk (Kd.R_below HO2.out hb8)
      have hcall := up1_calls x.f0 (HS.out.below HB8.out) (pw_cell_below HB8.out HQ.out)
      clear hb8 hi8
      cases hp : (upB s) x with
      | true =>
        have HE : Aside0 ((l.take (i + 1)).filter (upB s) = xs ++ [x]) := ⟨by rw [E3.out, if_pos hp]⟩
        have hp' : decide (s.pos ≤ x.f0) = true := hp
        rw [hp'] at hcall
        clear hp hp'
        go_wp2_with (first | (go_at_call 86; with_reducible refine hcall.mono ?_; rintro e w9 ⟨rfl, rfl⟩) | ((with_reducible refine gate_builtin (b := .append) (xs := #[.tmp 21, .tmp 23]) rfl ?_); at_builtin; refine Kd.R_append k77 (w0 := w) w.heap.size rfl (.tmp 21) (.tmp 23) 65 77 (.agg #[.int .i64 0, .int .i64 0]) 16 rfl Try.underlying65 info77 rfl (by decide) (by omega) _ xs x [.int .i64 x.f0, .int .i64 x.f1] (fun _ => True) (fun _ => False) rfl rfl ?aP (fun _ hk => hk.elim) ?aF ?aO HB8.out ?aS ?aL ?_; (case aP => exact k77_mkM _ _ _ x); (case aF => exact (fun _ _ => trivial)); (case aO => exact HO8.out); (case aS => exact HB8.out.size); (case aL => have := EL.out; have := HN.out; omega); intro v1 w9 ho hb hg hat; have HO1 := Aside0.mk ho; have HB1 := Aside0.mk hb; clear ho hb hg hat))
        go_roundg k1
        case rel => exact ⟨i + 1, by omega, by first | rfl | rw [ew.out], ⟨by rw [HE.out]; exact HO1.out⟩, HB1⟩
        all_goals omega
      | false =>
        have HE : Aside0 ((l.take (i + 1)).filter (upB s) = xs) := ⟨by rw [E3.out, if_neg (by rw [hp]; decide), List.append_nil]⟩
        have hp' : decide (s.pos ≤ x.f0) = false := hp
        rw [hp'] at hcall
        clear hp hp'
        go_wp2_with (go_at_call 86; with_reducible refine hcall.mono ?_; rintro e w9 ⟨rfl, rfl⟩)
        go_roundg k1
        case rel => exact ⟨i + 1, by omega, by first | rfl | rw [ew.out], ⟨by rw [HE.out]; exact HO8.out⟩, HB8⟩
        all_goals omega
set_option maxRecDepth 100000 in
set_option maxHeartbeats 4000000 in
theorem thoseDn_calls {B : Nat} {P : Nat → Prop} {w : World} {g q : Nat} {s : Sc} {l : List S77} (h : AS B P w g s l) (hq : w.cell? ⟨q, 0, none⟩ = some (.pointer (some ⟨g, 0, none⟩))) (hn : l.length < 1000) :
    Calls Try.prog 85 #[.pointer (some ⟨g, 0, none⟩), .func (.func 87) #[] #[.pointer (some ⟨q, 0, none⟩)]] w fun e w' => (∃ v, e = .returned v ∧ Kd.R k77 77 w' w.heap.size (fun _ => True) v (l.filter (dnB s))) ∧ Below w.heap.size w w' := by
  have HS := Aside0.mk h
  have HQ := Aside0.mk hq
  have HN := Aside0.mk hn
  obtain ⟨-, -, v, hg, hR⟩ := h
  obtain ⟨A, c, rfl, -, hC⟩ := Kd.R_reads hR
  have HC := Aside0.mk hC
  have c5 : w.cell? ⟨g, 5, none⟩ = some (.slice A l.length c) := (blk_cell hg 5).trans rfl
  clear hg hR hC hn hq
  go_enter Try.func85, Try.ntmps85
  go_wp2
  go_loopg [5, 13] l.length (fun kq v5 v13 w' => ∃ i : Nat, i + kq = l.length ∧ v13 = .int .i64 (i : Int) ∧ Aside0 (Kd.R k77 77 w' w.heap.size (fun _ => True) v5 ((l.take i).filter (dnB s))) ∧ Aside0 (Below w.heap.size w w'))
  case atStart => exact ⟨0, by omega, rfl, ⟨Kd.R_nil _ _ _ _ _⟩, ⟨Below.refl _ _⟩⟩
  case round =>
    obtain ⟨i, hi, rfl, hO, hB⟩ := hrel
    cases gk with
    | zero =>
      obtain rfl : i = l.length := by omega
      have c0 : decide ((l.length : Int) < (l.length : Int)) = false := by simp
      go_wp2
      go_ret
      have hO' := hO.out
      rw [List.take_length] at hO'
      exact ⟨⟨_, rfl, hO'⟩, hB.out⟩
    | succ k1 =>
      have hlt : i < l.length := by omega
      have c0 : decide ((i : Int) < (l.length : Int)) = true := by simp; omega
      have p123 : 0 ≤ (i : Int) := by omega
      have q123 : (i : Int) < (l.length : Int) := by omega
      obtain ⟨ad, e, hx0, hx1⟩ := at_T77 (Kd.C_below HC.out hB.out) (i : Int) p123 q123
      cases e
      have hrd : rd_T77 l (i : Int) = l[i] := by simp [rd_T77, List.getD_eq_getElem?_getD, hlt]
      rw [hrd] at hx0 hx1
      obtain ⟨x, hx⟩ : ∃ x, l[i] = x := ⟨_, rfl⟩
      have e3 : (l.take (i + 1)).filter (dnB s) = (l.take i).filter (dnB s) ++ (if (dnB s) x = true then [x] else []) := by
        rw [List.take_succ_eq_append_getElem hlt, List.filter_append, hx]
        by_cases hp : (dnB s) x = true <;> simp [hp]
      obtain ⟨xs, hxs⟩ : ∃ xs, (l.take i).filter (dnB s) = xs := ⟨_, rfl⟩
      have el : xs.length ≤ i := by rw [← hxs]; exact Nat.le_trans (List.length_filter_le _ _) (by rw [List.length_take]; omega)
      have hO2 := hO.out
      rw [hxs] at hO2 e3
      have HO2 := Aside0.mk hO2
      have E3 := Aside0.mk e3
      have EL := Aside0.mk el
      clear e3 el hO hO2 hxs
      rw [hx] at hx0 hx1
      rw [Int.toNat_natCast] at hx0 hx1
      have ew : Aside0 (wrap64 ((i : Int) + 1) = ((i + 1 : Nat) : Int)) := ⟨by have := HN.out; unfold wrap64; omega⟩
      replace p123 := eq_true p123
      replace q123 := eq_true q123
      clear hrd hx
      go_upto_region 5 with (first | ((with_reducible refine gate_dst (N := 7) rfl ?_); refine box_event ?hg (N := 7) ?hd (cs := #[.int .i64 0, .int .i64 0]) (t := 77) ?hr ?_; (case hd => rfl); (case hg => rfl); (case hr => first | (go_simp; done) | (go_simp; rfl)); intro gi hgi w7 hbox hb7; have z0 : w7.cell? ⟨gi, 0, none⟩ = some (.int .i64 0) := (blk_cell hbox 0).trans rfl; have z1 : w7.cell? ⟨gi, 1, none⟩ = some (.int .i64 0) := (blk_cell hbox 1).trans rfl; have y0 := blk_frozen hbox 0; have y1 := blk_frozen hbox 1; have HXgi := Aside0.mk hbox; have HIgi := Aside0.mk hgi; have HBgi := Aside0.mk hb7; clear hbox hgi hb7))
      have hi8 : ((w7.setCell ⟨gi, 0, none⟩ (.int .i64 x.f0)).setCell ⟨gi, 1, none⟩ (.int .i64 x.f1)).heap[gi]? = some (.cells #[.int .i64 x.f0, .int .i64 x.f1] 77 (0, 0)) := blk_put (blk_put HXgi.out 0 _ rfl) 1 _ rfl
      have hgi2 : wr.heap.size ≤ gi := Nat.le_of_eq HIgi.out.symm
      have hb8 : Below wr.heap.size wr ((w7.setCell ⟨gi, 0, none⟩ (.int .i64 x.f0)).setCell ⟨gi, 1, none⟩ (.int .i64 x.f1)) := (HBgi.out.setCell (p := ⟨gi, 0, none⟩) hgi2 _).setCell (p := ⟨gi, 1, none⟩) hgi2 _
      clear z0 z1 y0 y1 hx0 hx1
      generalize ((w7.setCell ⟨gi, 0, none⟩ (.int .i64 x.f0)).setCell ⟨gi, 1, none⟩ (.int .i64 x.f1)) = w8 at *
      have x0 : w8.cell? ⟨gi, 0, none⟩ = some (.int .i64 x.f0) := (blk_cell hi8 0).trans rfl
      have x1 : w8.cell? ⟨gi, 1, none⟩ = some (.int .i64 x.f1) := (blk_cell hi8 1).trans rfl
      have HB8 := Aside0.mk (below_step hB.out hb8)
      have HO8 := Aside0.mk (Kd.R_below HO2.out hb8)
      have hcall := dn1_calls x.f0 (HS.out.below HB8.out) (pw_cell_below HB8.out HQ.out)
      clear hb8 hi8
      cases hp : (dnB s) x with
      | true =>
        have HE : Aside0 ((l.take (i + 1)).filter (dnB s) = xs ++ [x]) := ⟨by rw [E3.out, if_pos hp]⟩
        have hp' : decide (x.f0 ≤ s.pos) = true := hp
        rw [hp'] at hcall
        clear hp hp'
        go_wp2_with (first | (go_at_call 87; with_reducible refine hcall.mono ?_; rintro e w9 ⟨rfl, rfl⟩) | ((with_reducible refine gate_builtin (b := .append) (xs := #[.tmp 21, .tmp 23]) rfl ?_); at_builtin; refine Kd.R_append k77 (w0 := w) w.heap.size rfl (.tmp 21) (.tmp 23) 65 77 (.agg #[.int .i64 0, .int .i64 0]) 16 rfl Try.underlying65 info77 rfl (by decide) (by omega) _ xs x [.int .i64 x.f0, .int .i64 x.f1] (fun _ => True) (fun _ => False) rfl rfl ?aP (fun _ hk => hk.elim) ?aF ?aO HB8.out ?aS ?aL ?_; (case aP => exact k77_mkM _ _ _ x); (case aF => exact (fun _ _ => trivial)); (case aO => exact HO8.out); (case aS => exact HB8.out.size); (case aL => have := EL.out; have := HN.out; omega); intro v1 w9 ho hb hg hat; have HO1 := Aside0.mk ho; have HB1 := Aside0.mk hb; clear ho hb hg hat))
        go_roundg k1
        case rel => exact ⟨i + 1, by omega, by first | rfl | rw [ew.out], ⟨by rw [HE.out]; exact HO1.out⟩, HB1⟩
        all_goals omega
      | false =>
        have HE : Aside0 ((l.take (i + 1)).filter (dnB s) = xs) := ⟨by rw [E3.out, if_neg (by rw [hp]; decide), List.append_nil]⟩
        have hp' : decide (x.f0 ≤ s.pos) = false := hp
        rw [hp'] at hcall
        clear hp hp'
        go_wp2_with (go_at_call 87; with_reducible refine hcall.mono ?_; rintro e w9 ⟨rfl, rfl⟩)
        go_roundg k1
        case rel => exact ⟨i + 1, by omega, by first | rfl | rw [ew.out], ⟨by rw [HE.out]; exact HO8.out⟩, HB8⟩
        all_goals omega
theorem cell0 {w : World} {g : Nat} {a b : Int} (h : w.heap[g]? = some (.cells #[.int .i64 a, .int .i64 b] 77 (0, 0))) : w.cell? ⟨g, 0, none⟩ = some (.int .i64 a) := (blk_cell h 0).trans rfl
theorem cell1 {w : World} {g : Nat} {a b : Int} (h : w.heap[g]? = some (.cells #[.int .i64 a, .int .i64 b] 77 (0, 0))) : w.cell? ⟨g, 1, none⟩ = some (.int .i64 b) := (blk_cell h 1).trans rfl
set_option maxRecDepth 100000 in
set_option maxHeartbeats 2000000 in
theorem above_calls {B : Nat} {P : Nat → Prop} {w : World} {g : Nat} {s : Sc} {l : List S77} (h : AS B P w g s l) (hn : l.length < 1000) :
    Calls Try.prog 79 #[.pointer (some ⟨g, 0, none⟩)] w fun e w' => e = .returned (.tuple #[.agg #[.int .i64 (bst lowB (l.filter (upB s))).f0, .int .i64 (bst lowB (l.filter (upB s))).f1], .bool (decide (0 < (l.filter (upB s)).length))]) ∧ Below w.heap.size w w' := by
  have HS := Aside0.mk h
  obtain ⟨m, hm⟩ : ∃ m, l.filter (upB s) = m := ⟨_, rfl⟩
  have hml : m.length < 1000 := by rw [← hm]; exact Nat.lt_of_le_of_lt (List.length_filter_le _ _) hn
  rw [hm]
  have hth : ∀ W q, Below w.heap.size w W → W.cell? ⟨q, 0, none⟩ = some (.pointer (some ⟨g, 0, none⟩)) → Calls Try.prog 85 #[.pointer (some ⟨g, 0, none⟩), .func (.func 86) #[] #[.pointer (some ⟨q, 0, none⟩)]] W fun e w' => (∃ v, e = .returned v ∧ Kd.R k77 77 w' W.heap.size (fun _ => True) v m) ∧ Below W.heap.size W w' := fun W q hb hq => by
    have := thoseUp_calls (HS.out.below hb) hq hn
    rw [hm] at this
    exact this
  have HML := Aside0.mk hml
  clear h hn hm hml
  go_enter Try.func79, Try.ntmps79
  go_upto_region 1 with (first | ((with_reducible refine gate_dst (N := 1) rfl ?_); refine box_event ?hg (N := 1) ?hd (cs := #[.pointer (some ⟨g, 0, none⟩)]) (t := 41) ?hr ?_; (case hd => rfl); (case hg => rfl); (case hr => first | (go_simp; done) | (go_simp; rfl)); intro gb hgb w5 hbox hb; have HBgb := Aside0.mk hb; have HXgb := Aside0.mk hbox; have HIgb := Aside0.mk hgb; clear hb hbox hgb) | ((with_reducible refine gate_dst (N := 2) rfl ?_); refine box_event ?hg (N := 2) ?hd (cs := #[.int .i64 0, .int .i64 0]) (t := 77) ?hr ?_; (case hd => rfl); (case hg => rfl); (case hr => first | (go_simp; done) | (go_simp; rfl)); intro go hgo w7 hbox hb7; have z0 : w7.cell? ⟨go, 0, none⟩ = some (.int .i64 0) := (blk_cell hbox 0).trans rfl; have z1 : w7.cell? ⟨go, 1, none⟩ = some (.int .i64 0) := (blk_cell hbox 1).trans rfl; have y0 := blk_frozen hbox 0; have y1 := blk_frozen hbox 1; have HXgo := Aside0.mk hbox; have HIgo := Aside0.mk hgo; have HBgo := Aside0.mk hb7; clear hbox hgo hb7))
  have HBW := Aside0.mk (below_step HBgb.out HBgo.out)
  have cq : w7.cell? ⟨gb, 0, none⟩ = some (.pointer (some ⟨g, 0, none⟩)) := pw_cell_below HBgo.out ((blk_cell HXgb.out 0).trans rfl)
  have hgo : w.heap.size ≤ go := Nat.le_trans HBgb.out.size (Nat.le_of_eq HIgo.out.symm)
  have hcall := hth _ _ HBW.out cq
  clear z0 z1 y0 y1 hth
  go_wp2_with (first | (go_at_call 85; with_reducible refine hcall.mono ?_; rintro e w8 ⟨⟨v8, rfl, ho8⟩, hb8⟩; obtain ⟨A8, c8, e8⟩ := Kd.R_slice ho8; subst e8; have hrd := Kd.R_reads' ho8; have hbest := best_low A8 c8 m hrd.2.2 HML.out; have HB8 := Aside0.mk hb8; clear hb8 ho8 hrd) | (go_at_call 77; with_reducible refine hbest.mono ?_; rintro e w9 ⟨rfl, hb9⟩; have hg9 := blk_below HXgo.out (below_step HB8.out hb9); have z0 := cell0 hg9; have z1 := cell1 hg9; have y0 := blk_frozen hg9 0; have y1 := blk_frozen hg9 1; have HB9 := Aside0.mk hb9; have HG9 := Aside0.mk hg9; clear hb9 hg9))
  (try simp only [Exit.inBlock, Exit.then])
  refine bodyPost_ret (ret_cell_tmp rfl _ _ go (bst lowB m) rfl (blk_put (blk_put HG9.out 0 _ rfl) 1 _ rfl)) rfl ?_
  exact ⟨rfl, ((below_step HBW.out (below_step HB8.out HB9.out)).setCell (p := ⟨go, 0, none⟩) hgo _).setCell (p := ⟨go, 1, none⟩) hgo _⟩
set_option maxRecDepth 100000 in
set_option maxHeartbeats 2000000 in
theorem below_calls {B : Nat} {P : Nat → Prop} {w : World} {g : Nat} {s : Sc} {l : List S77} (h : AS B P w g s l) (hn : l.length < 1000) :
    Calls Try.prog 80 #[.pointer (some ⟨g, 0, none⟩)] w fun e w' => e = .returned (.tuple #[.agg #[.int .i64 (bst higB (l.filter (dnB s))).f0, .int .i64 (bst higB (l.filter (dnB s))).f1], .bool (decide (0 < (l.filter (dnB s)).length))]) ∧ Below w.heap.size w w' := by
  have HS := Aside0.mk h
  obtain ⟨m, hm⟩ : ∃ m, l.filter (dnB s) = m := ⟨_, rfl⟩
  have hml : m.length < 1000 := by rw [← hm]; exact Nat.lt_of_le_of_lt (List.length_filter_le _ _) hn
  rw [hm]
  have hth : ∀ W q, Below w.heap.size w W → W.cell? ⟨q, 0, none⟩ = some (.pointer (some ⟨g, 0, none⟩)) → Calls Try.prog 85 #[.pointer (some ⟨g, 0, none⟩), .func (.func 87) #[] #[.pointer (some ⟨q, 0, none⟩)]] W fun e w' => (∃ v, e = .returned v ∧ Kd.R k77 77 w' W.heap.size (fun _ => True) v m) ∧ Below W.heap.size W w' := fun W q hb hq => by
    have := thoseDn_calls (HS.out.below hb) hq hn
    rw [hm] at this
    exact this
  have HML := Aside0.mk hml
  clear h hn hm hml
  go_enter Try.func80, Try.ntmps80
  go_upto_region 1 with (first | ((with_reducible refine gate_dst (N := 1) rfl ?_); refine box_event ?hg (N := 1) ?hd (cs := #[.pointer (some ⟨g, 0, none⟩)]) (t := 41) ?hr ?_; (case hd => rfl); (case hg => rfl); (case hr => first | (go_simp; done) | (go_simp; rfl)); intro gb hgb w5 hbox hb; have HBgb := Aside0.mk hb; have HXgb := Aside0.mk hbox; have HIgb := Aside0.mk hgb; clear hb hbox hgb) | ((with_reducible refine gate_dst (N := 2) rfl ?_); refine box_event ?hg (N := 2) ?hd (cs := #[.int .i64 0, .int .i64 0]) (t := 77) ?hr ?_; (case hd => rfl); (case hg => rfl); (case hr => first | (go_simp; done) | (go_simp; rfl)); intro go hgo w7 hbox hb7; have z0 : w7.cell? ⟨go, 0, none⟩ = some (.int .i64 0) := (blk_cell hbox 0).trans rfl; have z1 : w7.cell? ⟨go, 1, none⟩ = some (.int .i64 0) := (blk_cell hbox 1).trans rfl; have y0 := blk_frozen hbox 0; have y1 := blk_frozen hbox 1; have HXgo := Aside0.mk hbox; have HIgo := Aside0.mk hgo; have HBgo := Aside0.mk hb7; clear hbox hgo hb7))
  have HBW := Aside0.mk (below_step HBgb.out HBgo.out)
  have cq : w7.cell? ⟨gb, 0, none⟩ = some (.pointer (some ⟨g, 0, none⟩)) := pw_cell_below HBgo.out ((blk_cell HXgb.out 0).trans rfl)
  have hgo : w.heap.size ≤ go := Nat.le_trans HBgb.out.size (Nat.le_of_eq HIgo.out.symm)
  have hcall := hth _ _ HBW.out cq
  clear z0 z1 y0 y1 hth
  go_wp2_with (first | (go_at_call 85; with_reducible refine hcall.mono ?_; rintro e w8 ⟨⟨v8, rfl, ho8⟩, hb8⟩; obtain ⟨A8, c8, e8⟩ := Kd.R_slice ho8; subst e8; have hrd := Kd.R_reads' ho8; have hbest := best_high A8 c8 m hrd.2.2 HML.out; have HB8 := Aside0.mk hb8; clear hb8 ho8 hrd) | (go_at_call 77; with_reducible refine hbest.mono ?_; rintro e w9 ⟨rfl, hb9⟩; have hg9 := blk_below HXgo.out (below_step HB8.out hb9); have z0 := cell0 hg9; have z1 := cell1 hg9; have y0 := blk_frozen hg9 0; have y1 := blk_frozen hg9 1; have HB9 := Aside0.mk hb9; have HG9 := Aside0.mk hg9; clear hb9 hg9))
  (try simp only [Exit.inBlock, Exit.then])
  refine bodyPost_ret (ret_cell_tmp rfl _ _ go (bst higB m) rfl (blk_put (blk_put HG9.out 0 _ rfl) 1 _ rfl)) rfl ?_
  exact ⟨rfl, ((below_step HBW.out (below_step HB8.out HB9.out)).setCell (p := ⟨go, 0, none⟩) hgo _).setCell (p := ⟨go, 1, none⟩) hgo _⟩
end Go.Proofs.Ytfbjeiloefocgaa.CC
/-! Contracts of the package arm: fifo, near, cyclic, scan, choose. -/
namespace Go.Proofs.Ytfbjeiloefocgaa.CC
open Go.RowKit Go.Proofs.Ytfbjeiloefocgaa.Fl Go.Proofs.Ytfbjeiloefocgaa.PL Go.Proofs.Ytfbjeiloefocgaa.PG Go.Proofs.YtfbjeiloefocgaaW.PrintWords Go.Proofs.YtfbjeiloefocgaaW.PrintLast Go.Proofs.YtfbjeiloefocgaaW.PrintMore
attribute [local go_sem] Oper.semAt_some

theorem bst_one_mem (p : S77 → S77 → Bool) (l : List S77) (h : 0 < l.length) : bst p l ∈ l := bst_mem p l h
set_option maxHeartbeats 1000000 in
theorem fifo_calls {B : Nat} {P : Nat → Prop} {w : World} {g : Nat} {s : Sc} {l : List S77} (h : AS B P w g s l) (h0 : 0 < l.length) :
    Calls Try.prog 68 #[.pointer (some ⟨g, 0, none⟩)] w fun e w' => e = .returned (.agg #[.int .i64 (l[0]).f0, .int .i64 (l[0]).f1]) ∧ Below w.heap.size w w' := by
  obtain ⟨gr, cap, hg, hR, -⟩ := as_open h h0
  obtain ⟨q0, q1⟩ := (as_cells hR 0 h0).1
  rw [Nat.zero_mul] at q0 q1
  have c5 : w.cell? ⟨g, 5, none⟩ = some (.slice (some ⟨gr, 0, none⟩) l.length cap) := (blk_cell hg 5).trans rfl
  have p2 : ((0 : Int) < (l.length : Int)) = True := eq_true (by omega)
  generalize l[0] = x at *
  clear h hg hR
  go_enter Try.func68, Try.ntmps68
  go_upto_region 1 with (first | ((with_reducible refine gate_dst (N := 2) rfl ?_); refine box_event ?hg (N := 2) ?hd (cs := #[.int .i64 0, .int .i64 0]) (t := 77) ?hr ?_; (case hd => rfl); (case hg => rfl); (case hr => first | (go_simp; done) | (go_simp; rfl)); intro go hgo w7 hbox hb7; have z0 : w7.cell? ⟨go, 0, none⟩ = some (.int .i64 0) := (blk_cell hbox 0).trans rfl; have z1 : w7.cell? ⟨go, 1, none⟩ = some (.int .i64 0) := (blk_cell hbox 1).trans rfl; have y0 := blk_frozen hbox 0; have y1 := blk_frozen hbox 1; have HXgo := Aside0.mk hbox; have HIgo := Aside0.mk hgo; have HBgo := Aside0.mk hb7; clear hbox hgo hb7))
  have c6 := pw_cell_below HBgo.out c5
  have q2 := pw_cell_below HBgo.out q0
  have q3 := pw_cell_below HBgo.out q1
  have hgo : w.heap.size ≤ go := Nat.le_of_eq HIgo.out.symm
  clear c5 q0 q1
  go_wp2
  (try simp only [Exit.inBlock, Exit.then])
  refine bodyPost_ret (ret_cell rfl _ _ go x rfl (blk_put (blk_put HXgo.out 0 _ rfl) 1 _ rfl)) rfl ?_
  exact ⟨rfl, (HBgo.out.setCell (p := ⟨go, 0, none⟩) hgo _).setCell (p := ⟨go, 1, none⟩) hgo _⟩
set_option maxHeartbeats 2000000 in
theorem near_calls {B : Nat} {P : Nat → Prop} {w : World} {g : Nat} {s : Sc} {l : List S77} (h : AS B P w g s l) (hn : l.length < 1000) (hpos : Bl s.pos) (hper : Tr s.per) (hall : ∀ x ∈ l, Bl x.f0) :
    Calls Try.prog 65 #[.pointer (some ⟨g, 0, none⟩)] w fun e w' => e = .returned (.agg #[.int .i64 (bst (nearB s) l).f0, .int .i64 (bst (nearB s) l).f1]) ∧ Below w.heap.size w w' := by
  have HS := Aside0.mk h
  obtain ⟨x, hx⟩ : ∃ x, bst (nearB s) l = x := ⟨_, rfl⟩
  rw [hx]
  obtain ⟨-, -, v, hg, hR⟩ := h
  obtain ⟨A, c, rfl, -, hC⟩ := Kd.R_reads hR
  have HC := Aside0.mk hC
  have HALL := Aside0.mk hall
  have c5 : w.cell? ⟨g, 5, none⟩ = some (.slice A l.length c) := (blk_cell hg 5).trans rfl
  clear hg hR hC hall
  go_enter Try.func65, Try.ntmps65
  go_upto_region 1 with (first | ((with_reducible refine gate_dst (N := 1) rfl ?_); refine box_event ?hg (N := 1) ?hd (cs := #[.pointer (some ⟨g, 0, none⟩)]) (t := 41) ?hr ?_; (case hd => rfl); (case hg => rfl); (case hr => first | (go_simp; done) | (go_simp; rfl)); intro gb hgb w5 hbox hb; have HBgb := Aside0.mk hb; have HXgb := Aside0.mk hbox; have HIgb := Aside0.mk hgb; clear hb hbox hgb) | ((with_reducible refine gate_dst (N := 2) rfl ?_); refine box_event ?hg (N := 2) ?hd (cs := #[.int .i64 0, .int .i64 0]) (t := 77) ?hr ?_; (case hd => rfl); (case hg => rfl); (case hr => first | (go_simp; done) | (go_simp; rfl)); intro g2 hg2 w6 hbox hb7; have z0 : w6.cell? ⟨g2, 0, none⟩ = some (.int .i64 0) := (blk_cell hbox 0).trans rfl; have z1 : w6.cell? ⟨g2, 1, none⟩ = some (.int .i64 0) := (blk_cell hbox 1).trans rfl; have y0 := blk_frozen hbox 0; have y1 := blk_frozen hbox 1; have HXg2 := Aside0.mk hbox; have HIg2 := Aside0.mk hg2; have HBg2 := Aside0.mk hb7; clear hbox hg2 hb7))
  have HBW := Aside0.mk (below_step HBgb.out HBg2.out)
  have cq : w6.cell? ⟨gb, 0, none⟩ = some (.pointer (some ⟨g, 0, none⟩)) := pw_cell_below HBg2.out ((blk_cell HXgb.out 0).trans rfl)
  have c6 := pw_cell_below HBW.out c5
  have hb := best_near A c l (Kd.C_below HC.out HBW.out) hn (HS.out.below HBW.out) cq hpos hper HALL.out
  have hg2 : w.heap.size ≤ g2 := Nat.le_trans HBgb.out.size (Nat.le_of_eq HIg2.out.symm)
  rw [hx] at hb
  clear hx
  clear z0 z1 y0 y1 c5 hpos hper
  go_upto_region 2 with (first | (go_at_call 77; with_reducible refine hb.mono ?_; rintro e w8 ⟨rfl, hb8⟩; have HB8 := Aside0.mk (below_step HBW.out hb8); have HG8 := Aside0.mk (blk_below HXg2.out hb8); clear hb8 hb) | ((with_reducible refine gate_dst (N := 3) rfl ?_); refine box_event ?hg (N := 3) ?hd (cs := #[.int .i64 0, .int .i64 0]) (t := 77) ?hr ?_; (case hd => rfl); (case hg => rfl); (case hr => first | (go_simp; done) | (go_simp; rfl)); intro g3 hg3 w9 hbox hb7; have z0 : w9.cell? ⟨g3, 0, none⟩ = some (.int .i64 0) := (blk_cell hbox 0).trans rfl; have z1 : w9.cell? ⟨g3, 1, none⟩ = some (.int .i64 0) := (blk_cell hbox 1).trans rfl; have y0 := blk_frozen hbox 0; have y1 := blk_frozen hbox 1; have HXg3 := Aside0.mk hbox; have HIg3 := Aside0.mk hg3; have HBg3 := Aside0.mk hb7; clear hbox hg3 hb7))
  have hi8 : ((w9.setCell ⟨g3, 0, none⟩ (.int .i64 (x).f0)).setCell ⟨g3, 1, none⟩ (.int .i64 (x).f1)).heap[g3]? = some (.cells #[.int .i64 (x).f0, .int .i64 (x).f1] 77 (0, 0)) := blk_put (blk_put HXg3.out 0 _ rfl) 1 _ rfl
  have hg3 : w8.heap.size ≤ g3 := Nat.le_of_eq HIg3.out.symm
  have hb9 : Below w8.heap.size w8 ((w9.setCell ⟨g3, 0, none⟩ (.int .i64 (x).f0)).setCell ⟨g3, 1, none⟩ (.int .i64 (x).f1)) := (HBg3.out.setCell (p := ⟨g3, 0, none⟩) hg3 _).setCell (p := ⟨g3, 1, none⟩) hg3 _
  clear z0 z1 y0 y1
  generalize ((w9.setCell ⟨g3, 0, none⟩ (.int .i64 (x).f0)).setCell ⟨g3, 1, none⟩ (.int .i64 (x).f1)) = wa at *
  have x0 : wa.cell? ⟨g3, 0, none⟩ = some (.int .i64 x.f0) := (blk_cell hi8 0).trans rfl
  have x1 : wa.cell? ⟨g3, 1, none⟩ = some (.int .i64 x.f1) := (blk_cell hi8 1).trans rfl
  have hga := blk_below HG8.out hb9
  have z0 := cell0 hga
  have z1 := cell1 hga
  have y0 := blk_frozen hga 0
  have y1 := blk_frozen hga 1
  have HGA := Aside0.mk hga
  have HBA := Aside0.mk (below_step HB8.out hb9)
  clear hga hi8 hb9
  go_wp2
  (try simp only [Exit.inBlock, Exit.then])
  refine bodyPost_ret (ret_cell rfl _ _ g2 x rfl (blk_put (blk_put HGA.out 0 _ rfl) 1 _ rfl)) rfl ?_
  exact ⟨rfl, (HBA.out.setCell (p := ⟨g2, 0, none⟩) hg2 _).setCell (p := ⟨g2, 1, none⟩) hg2 _⟩
/-- The least block that is not below the arm's, or the least. -/
def cycA (s : Sc) (l : List S77) : S77 := if 0 < (l.filter (upB s)).length then bst lowB (l.filter (upB s)) else bst lowB l
set_option maxHeartbeats 2000000 in
theorem cyclic_calls {B : Nat} {P : Nat → Prop} {w : World} {g : Nat} {s : Sc} {l : List S77} (h : AS B P w g s l) (hn : l.length < 1000) :
    Calls Try.prog 67 #[.pointer (some ⟨g, 0, none⟩)] w fun e w' => e = .returned (.agg #[.int .i64 (cycA s l).f0, .int .i64 (cycA s l).f1]) ∧ Below w.heap.size w w' := by
  have HS := Aside0.mk h
  obtain ⟨-, -, v, hg, hR⟩ := h
  obtain ⟨A, c, rfl, -, hC⟩ := Kd.R_reads hR
  have HC := Aside0.mk hC
  have c5 : w.cell? ⟨g, 5, none⟩ = some (.slice A l.length c) := (blk_cell hg 5).trans rfl
  clear hg hR hC
  have hab := fun W (hb : Below w.heap.size w W) => above_calls (HS.out.below hb) hn
  have hbe := fun W (hb : Below w.heap.size w W) => best_low A c l (Kd.C_below HC.out hb) hn
  unfold cycA
  generalize bst lowB (l.filter (upB s)) = x at *
  generalize bst lowB l = y at *
  by_cases hp : 0 < (l.filter (upB s)).length
  · rw [if_pos hp]
    have d1 : decide (0 < (l.filter (upB s)).length) = true := decide_eq_true hp
    rw [d1] at hab
    clear hp d1
    go_enter Try.func67, Try.ntmps67
    go_upto_region 2 with (first | ((with_reducible refine gate_dst (N := 2) rfl ?_); refine box_event ?hg (N := 2) ?hd (cs := #[.int .i64 0, .int .i64 0]) (t := 77) ?hr ?_; (case hd => rfl); (case hg => rfl); (case hr => first | (go_simp; done) | (go_simp; rfl)); intro g2 hg2 w6 hbox hb7; have z0 : w6.cell? ⟨g2, 0, none⟩ = some (.int .i64 0) := (blk_cell hbox 0).trans rfl; have z1 : w6.cell? ⟨g2, 1, none⟩ = some (.int .i64 0) := (blk_cell hbox 1).trans rfl; have y0 := blk_frozen hbox 0; have y1 := blk_frozen hbox 1; have HXg2 := Aside0.mk hbox; have HIg2 := Aside0.mk hg2; have HBg2 := Aside0.mk hb7; clear hbox hg2 hb7) | (go_at_call 79; with_reducible refine (hab _ HBg2.out).mono ?_; rintro e w8 ⟨rfl, hb8⟩; have HB8 := Aside0.mk (below_step HBg2.out hb8); have HG8 := Aside0.mk (blk_below HXg2.out hb8); clear hb8 z0 z1 y0 y1) | ((with_reducible refine gate_dst (N := 3) rfl ?_); refine box_event ?hg (N := 3) ?hd (cs := #[.int .i64 0, .int .i64 0]) (t := 77) ?hr ?_; (case hd => rfl); (case hg => rfl); (case hr => first | (go_simp; done) | (go_simp; rfl)); intro g3 hg3 w9 hbox hb7; have z0 : w9.cell? ⟨g3, 0, none⟩ = some (.int .i64 0) := (blk_cell hbox 0).trans rfl; have z1 : w9.cell? ⟨g3, 1, none⟩ = some (.int .i64 0) := (blk_cell hbox 1).trans rfl; have y0 := blk_frozen hbox 0; have y1 := blk_frozen hbox 1; have HXg3 := Aside0.mk hbox; have HIg3 := Aside0.mk hg3; have HBg3 := Aside0.mk hb7; clear hbox hg3 hb7))
    have hg2 : w.heap.size ≤ g2 := Nat.le_of_eq HIg2.out.symm
    have hi8 : ((w9.setCell ⟨g3, 0, none⟩ (.int .i64 (x).f0)).setCell ⟨g3, 1, none⟩ (.int .i64 (x).f1)).heap[g3]? = some (.cells #[.int .i64 (x).f0, .int .i64 (x).f1] 77 (0, 0)) := blk_put (blk_put HXg3.out 0 _ rfl) 1 _ rfl
    have hg3 : w8.heap.size ≤ g3 := Nat.le_of_eq HIg3.out.symm
    have hb9 : Below w8.heap.size w8 ((w9.setCell ⟨g3, 0, none⟩ (.int .i64 (x).f0)).setCell ⟨g3, 1, none⟩ (.int .i64 (x).f1)) := (HBg3.out.setCell (p := ⟨g3, 0, none⟩) hg3 _).setCell (p := ⟨g3, 1, none⟩) hg3 _
    clear z0 z1 y0 y1
    generalize ((w9.setCell ⟨g3, 0, none⟩ (.int .i64 (x).f0)).setCell ⟨g3, 1, none⟩ (.int .i64 (x).f1)) = wa at *
    have x0 : wa.cell? ⟨g3, 0, none⟩ = some (.int .i64 (x).f0) := (blk_cell hi8 0).trans rfl
    have x1 : wa.cell? ⟨g3, 1, none⟩ = some (.int .i64 (x).f1) := (blk_cell hi8 1).trans rfl
    have hga := blk_below HG8.out hb9
    have HBA := Aside0.mk (below_step HB8.out hb9)
    have HI8 := Aside0.mk hi8
    have z0 := cell0 hga
    have z1 := cell1 hga
    have y0 := blk_frozen hga 0
    have y1 := blk_frozen hga 1
    have HGA := Aside0.mk hga
    clear hga hi8 hb9
    go_wp2
    (try simp only [Exit.inBlock, Exit.then])
    refine bodyPost_ret (ret_cell rfl _ _ g2 x rfl (blk_put (blk_put HGA.out 0 _ rfl) 1 _ rfl)) rfl ?_
    exact ⟨rfl, (HBA.out.setCell (p := ⟨g2, 0, none⟩) hg2 _).setCell (p := ⟨g2, 1, none⟩) hg2 _⟩
  · rw [if_neg hp]
    have d1 : decide (0 < (l.filter (upB s)).length) = false := decide_eq_false hp
    rw [d1] at hab
    clear hp d1
    go_enter Try.func67, Try.ntmps67
    go_upto_region 2 with (first | ((with_reducible refine gate_dst (N := 2) rfl ?_); refine box_event ?hg (N := 2) ?hd (cs := #[.int .i64 0, .int .i64 0]) (t := 77) ?hr ?_; (case hd => rfl); (case hg => rfl); (case hr => first | (go_simp; done) | (go_simp; rfl)); intro g2 hg2 w6 hbox hb7; have z0 : w6.cell? ⟨g2, 0, none⟩ = some (.int .i64 0) := (blk_cell hbox 0).trans rfl; have z1 : w6.cell? ⟨g2, 1, none⟩ = some (.int .i64 0) := (blk_cell hbox 1).trans rfl; have y0 := blk_frozen hbox 0; have y1 := blk_frozen hbox 1; have HXg2 := Aside0.mk hbox; have HIg2 := Aside0.mk hg2; have HBg2 := Aside0.mk hb7; clear hbox hg2 hb7) | (go_at_call 79; with_reducible refine (hab _ HBg2.out).mono ?_; rintro e w8 ⟨rfl, hb8⟩; have HB8 := Aside0.mk (below_step HBg2.out hb8); have HG8 := Aside0.mk (blk_below HXg2.out hb8); clear hb8 z0 z1 y0 y1) | ((with_reducible refine gate_dst (N := 3) rfl ?_); refine box_event ?hg (N := 3) ?hd (cs := #[.int .i64 0, .int .i64 0]) (t := 77) ?hr ?_; (case hd => rfl); (case hg => rfl); (case hr => first | (go_simp; done) | (go_simp; rfl)); intro g3 hg3 w9 hbox hb7; have z0 : w9.cell? ⟨g3, 0, none⟩ = some (.int .i64 0) := (blk_cell hbox 0).trans rfl; have z1 : w9.cell? ⟨g3, 1, none⟩ = some (.int .i64 0) := (blk_cell hbox 1).trans rfl; have y0 := blk_frozen hbox 0; have y1 := blk_frozen hbox 1; have HXg3 := Aside0.mk hbox; have HIg3 := Aside0.mk hg3; have HBg3 := Aside0.mk hb7; clear hbox hg3 hb7))
    have hg2 : w.heap.size ≤ g2 := Nat.le_of_eq HIg2.out.symm
    have hi8 : ((w9.setCell ⟨g3, 0, none⟩ (.int .i64 (x).f0)).setCell ⟨g3, 1, none⟩ (.int .i64 (x).f1)).heap[g3]? = some (.cells #[.int .i64 (x).f0, .int .i64 (x).f1] 77 (0, 0)) := blk_put (blk_put HXg3.out 0 _ rfl) 1 _ rfl
    have hg3 : w8.heap.size ≤ g3 := Nat.le_of_eq HIg3.out.symm
    have hb9 : Below w8.heap.size w8 ((w9.setCell ⟨g3, 0, none⟩ (.int .i64 (x).f0)).setCell ⟨g3, 1, none⟩ (.int .i64 (x).f1)) := (HBg3.out.setCell (p := ⟨g3, 0, none⟩) hg3 _).setCell (p := ⟨g3, 1, none⟩) hg3 _
    clear z0 z1 y0 y1
    generalize ((w9.setCell ⟨g3, 0, none⟩ (.int .i64 (x).f0)).setCell ⟨g3, 1, none⟩ (.int .i64 (x).f1)) = wa at *
    have x0 : wa.cell? ⟨g3, 0, none⟩ = some (.int .i64 (x).f0) := (blk_cell hi8 0).trans rfl
    have x1 : wa.cell? ⟨g3, 1, none⟩ = some (.int .i64 (x).f1) := (blk_cell hi8 1).trans rfl
    have hga := blk_below HG8.out hb9
    have HBA := Aside0.mk (below_step HB8.out hb9)
    have HI8 := Aside0.mk hi8

    have c6 := pw_cell_below HBA.out c5
    have hbe2 := hbe _ HBA.out
    have HGA := Aside0.mk hga
    clear hga hi8 hb9 x0 x1 c5
    go_upto_region 4 with (first | (go_at_call 77; with_reducible refine hbe2.mono ?_; rintro e wb ⟨rfl, hbb⟩; have hib := blk_below HI8.out hbb; have z0 := cell0 hib; have z1 := cell1 hib; have y0 := blk_frozen hib 0; have y1 := blk_frozen hib 1; have HIB := Aside0.mk hib; have HBB := Aside0.mk hbb; clear hib hbb))
    have hic : ((wb.setCell ⟨g3, 0, none⟩ (.int .i64 (y).f0)).setCell ⟨g3, 1, none⟩ (.int .i64 (y).f1)).heap[g3]? = some (.cells #[.int .i64 (y).f0, .int .i64 (y).f1] 77 (0, 0)) := blk_put (blk_put HIB.out 0 _ rfl) 1 _ rfl
    have hgc := blk_below HGA.out HBB.out
    have hne : g2 ≠ g3 := by
      have := blk_lt HG8.out
      omega
    have hgd : ((wb.setCell ⟨g3, 0, none⟩ (.int .i64 (y).f0)).setCell ⟨g3, 1, none⟩ (.int .i64 (y).f1)).heap[g2]? = some (.cells #[.int .i64 0, .int .i64 0] 77 (0, 0)) := by
      rw [Below.heap_setCell _ _ _ g2 hne, Below.heap_setCell _ _ _ g2 hne]
      exact hgc
    have hg3b : w.heap.size ≤ g3 := Nat.le_trans HB8.out.size hg3
    have HBC : Aside0 (Below w.heap.size w ((wb.setCell ⟨g3, 0, none⟩ (.int .i64 (y).f0)).setCell ⟨g3, 1, none⟩ (.int .i64 (y).f1))) := ⟨((below_step HBA.out HBB.out).setCell (p := ⟨g3, 0, none⟩) hg3b _).setCell (p := ⟨g3, 1, none⟩) hg3b _⟩
    clear z0 z1 y0 y1 hgc hne hg3b
    generalize ((wb.setCell ⟨g3, 0, none⟩ (.int .i64 (y).f0)).setCell ⟨g3, 1, none⟩ (.int .i64 (y).f1)) = wc at *
    have x0 : wc.cell? ⟨g3, 0, none⟩ = some (.int .i64 y.f0) := (blk_cell hic 0).trans rfl
    have x1 : wc.cell? ⟨g3, 1, none⟩ = some (.int .i64 y.f1) := (blk_cell hic 1).trans rfl
    have z0 := cell0 hgd
    have z1 := cell1 hgd
    have y0 := blk_frozen hgd 0
    have y1 := blk_frozen hgd 1
    have HGD := Aside0.mk hgd
    clear hgd hic
    go_wp2
    (try simp only [Exit.inBlock, Exit.then])
    refine bodyPost_ret (ret_cell rfl _ _ g2 y rfl (blk_put (blk_put HGD.out 0 _ rfl) 1 _ rfl)) rfl ?_
    exact ⟨rfl, (HBC.out.setCell (p := ⟨g2, 0, none⟩) hg2 _).setCell (p := ⟨g2, 1, none⟩) hg2 _⟩
end Go.Proofs.Ytfbjeiloefocgaa.CC
/-! Contracts of the package arm: scan, choose. -/
namespace Go.Proofs.Ytfbjeiloefocgaa.CC
open Go.RowKit Go.Proofs.Ytfbjeiloefocgaa.Fl Go.Proofs.Ytfbjeiloefocgaa.PL Go.Proofs.Ytfbjeiloefocgaa.PG Go.Proofs.YtfbjeiloefocgaaW.PrintWords Go.Proofs.YtfbjeiloefocgaaW.PrintLast Go.Proofs.YtfbjeiloefocgaaW.PrintMore
attribute [local go_sem] Oper.semAt_some

/-- Which one comes next, and whether it goes up then. -/
def scanA (s : Sc) (l : List S77) : S77 × Bool :=
  if s.up = true then (if 0 < (l.filter (upB s)).length then (bst lowB (l.filter (upB s)), true) else (bst higB (l.filter (dnB s)), false))
  else (if 0 < (l.filter (dnB s)).length then (bst higB (l.filter (dnB s)), false) else (bst lowB (l.filter (upB s)), true))
set_option maxHeartbeats 4000000 in
theorem scan_calls (g : Nat) (P : Nat → Prop) (s : Sc) (l : List S77) (w0 w : World) (hB : Below w0.heap.size w0 w) (h : AS w0.heap.size P w g s l) (hn : l.length < 1000) (hP : ∀ k, P k → k < w.heap.size) :
    Calls Try.prog 66 #[.pointer (some ⟨g, 0, none⟩)] w fun e w' => e = .returned (.agg #[.int .i64 ((scanA s l).1).f0, .int .i64 ((scanA s l).1).f1]) ∧ AS w0.heap.size P w' g { s with up := (scanA s l).2 } l ∧ Below w0.heap.size w0 w' ∧ Kept w w' P := by
  have HS := Aside0.mk h
  have HB0 := Aside0.mk hB
  obtain ⟨-, -, v, hg, -⟩ := h
  have HG0 := Aside0.mk hg
  clear hg hB
  cases hup : s.up with
  | true =>
    have HUP := Aside0.mk hup
    clear hup
    by_cases hp : 0 < (l.filter (upB s)).length
    · have hab := fun W (hb : Below w.heap.size w W) => above_calls (HS.out.below hb) hn
      obtain ⟨x, hx⟩ : ∃ x, bst lowB (l.filter (upB s)) = x := ⟨_, rfl⟩
      rw [hx] at hab
      have c3 : w.cell? ⟨g, 3, none⟩ = some (.bool true) := (blk_cell HG0.out 3).trans (by rw [← HUP.out]; rfl)
      rw [decide_eq_true hp] at hab
      have hr : scanA s l = (x, true) := by unfold scanA; rw [HUP.out]; simp [hp, hx]
      rw [hr]
      clear hp hx hr
      go_enter Try.func66, Try.ntmps66
      go_upto_region 2 with (first | ((with_reducible refine gate_dst (N := 2) rfl ?_); refine box_event ?hg (N := 2) ?hd (cs := #[.int .i64 0, .int .i64 0]) (t := 77) ?hr ?_; (case hd => rfl); (case hg => rfl); (case hr => first | (go_simp; done) | (go_simp; rfl)); intro g2 hg2 w6 hbox hb7; have z0 : w6.cell? ⟨g2, 0, none⟩ = some (.int .i64 0) := (blk_cell hbox 0).trans rfl; have z1 : w6.cell? ⟨g2, 1, none⟩ = some (.int .i64 0) := (blk_cell hbox 1).trans rfl; have y0 := blk_frozen hbox 0; have y1 := blk_frozen hbox 1; have HXg2 := Aside0.mk hbox; have HIg2 := Aside0.mk hg2; have HBg2 := Aside0.mk hb7; clear hbox hg2 hb7))
      have c4 := pw_cell_below HBg2.out c3
      go_upto_region 5 with (first | (go_at_call 79; with_reducible refine (hab _ HBg2.out).mono ?_; rintro e w8 ⟨rfl, hb8⟩; have HB8 := Aside0.mk (below_step HBg2.out hb8); have HG8 := Aside0.mk (blk_below HXg2.out hb8); clear hb8 z0 z1 y0 y1) | ((with_reducible refine gate_dst (N := 5) rfl ?_); refine box_event ?hg (N := 5) ?hd (cs := #[.int .i64 0, .int .i64 0]) (t := 77) ?hr ?_; (case hd => rfl); (case hg => rfl); (case hr => first | (go_simp; done) | (go_simp; rfl)); intro g3 hg3 w9 hbox hb7; have z0 : w9.cell? ⟨g3, 0, none⟩ = some (.int .i64 0) := (blk_cell hbox 0).trans rfl; have z1 : w9.cell? ⟨g3, 1, none⟩ = some (.int .i64 0) := (blk_cell hbox 1).trans rfl; have y0 := blk_frozen hbox 0; have y1 := blk_frozen hbox 1; have HXg3 := Aside0.mk hbox; have HIg3 := Aside0.mk hg3; have HBg3 := Aside0.mk hb7; clear hbox hg3 hb7))
      have hg2 : w.heap.size ≤ g2 := Nat.le_of_eq HIg2.out.symm
      have hi8 : ((w9.setCell ⟨g3, 0, none⟩ (.int .i64 (x).f0)).setCell ⟨g3, 1, none⟩ (.int .i64 (x).f1)).heap[g3]? = some (.cells #[.int .i64 (x).f0, .int .i64 (x).f1] 77 (0, 0)) := blk_put (blk_put HXg3.out 0 _ rfl) 1 _ rfl
      have hg3 : w8.heap.size ≤ g3 := Nat.le_of_eq HIg3.out.symm
      have hb9 : Below w8.heap.size w8 ((w9.setCell ⟨g3, 0, none⟩ (.int .i64 (x).f0)).setCell ⟨g3, 1, none⟩ (.int .i64 (x).f1)) := (HBg3.out.setCell (p := ⟨g3, 0, none⟩) hg3 _).setCell (p := ⟨g3, 1, none⟩) hg3 _
      clear z0 z1 y0 y1
      generalize ((w9.setCell ⟨g3, 0, none⟩ (.int .i64 (x).f0)).setCell ⟨g3, 1, none⟩ (.int .i64 (x).f1)) = wa at *
      have hga := blk_below HG8.out hb9
      have HBA := Aside0.mk (below_step HB8.out hb9)
      have HI8 := Aside0.mk hi8
      have x0 : wa.cell? ⟨g3, 0, none⟩ = some (.int .i64 x.f0) := (blk_cell hi8 0).trans rfl
      have x1 : wa.cell? ⟨g3, 1, none⟩ = some (.int .i64 x.f1) := (blk_cell hi8 1).trans rfl
      have z0 := cell0 hga
      have z1 := cell1 hga
      have y0 := blk_frozen hga 0
      have y1 := blk_frozen hga 1
      have HGA := Aside0.mk hga
      clear hga hi8 hb9
      go_wp2
      (try simp only [Exit.inBlock, Exit.then])
      refine bodyPost_ret (ret_cell rfl _ _ g2 x rfl (blk_put (blk_put HGA.out 0 _ rfl) 1 _ rfl)) rfl ?_
      have hbe : Below w.heap.size w ((wa.setCell ⟨g2, 0, none⟩ (.int .i64 x.f0)).setCell ⟨g2, 1, none⟩ (.int .i64 x.f1)) := (HBA.out.setCell (p := ⟨g2, 0, none⟩) hg2 _).setCell (p := ⟨g2, 1, none⟩) hg2 _
      have hs' : ({ s with up := true } : Sc) = s := by rw [← HUP.out]
      refine ⟨rfl, ?_, below_then HB0.out HB0.out.size hbe, kept_below _ hbe⟩
      show AS w0.heap.size P _ g { s with up := true } l
      rw [hs']
      exact HS.out.below hbe

    · have hab := fun W (hb : Below w.heap.size w W) => above_calls (HS.out.below hb) hn
      obtain ⟨x, hx⟩ : ∃ x, bst lowB (l.filter (upB s)) = x := ⟨_, rfl⟩
      rw [hx] at hab
      have c3 : w.cell? ⟨g, 3, none⟩ = some (.bool true) := (blk_cell HG0.out 3).trans (by rw [← HUP.out]; rfl)
      rw [decide_eq_false hp] at hab
      obtain ⟨y, hy⟩ : ∃ y, bst higB (l.filter (dnB s)) = y := ⟨_, rfl⟩
      have hr : scanA s l = (y, false) := by unfold scanA; rw [HUP.out]; simp only [if_true, if_neg hp, hy]
      rw [hr]
      clear hp hx hr
      go_enter Try.func66, Try.ntmps66
      go_upto_region 2 with (first | ((with_reducible refine gate_dst (N := 2) rfl ?_); refine box_event ?hg (N := 2) ?hd (cs := #[.int .i64 0, .int .i64 0]) (t := 77) ?hr ?_; (case hd => rfl); (case hg => rfl); (case hr => first | (go_simp; done) | (go_simp; rfl)); intro g2 hg2 w6 hbox hb7; have z0 : w6.cell? ⟨g2, 0, none⟩ = some (.int .i64 0) := (blk_cell hbox 0).trans rfl; have z1 : w6.cell? ⟨g2, 1, none⟩ = some (.int .i64 0) := (blk_cell hbox 1).trans rfl; have y0 := blk_frozen hbox 0; have y1 := blk_frozen hbox 1; have HXg2 := Aside0.mk hbox; have HIg2 := Aside0.mk hg2; have HBg2 := Aside0.mk hb7; clear hbox hg2 hb7))
      have c4 := pw_cell_below HBg2.out c3
      go_upto_region 5 with (first | (go_at_call 79; with_reducible refine (hab _ HBg2.out).mono ?_; rintro e w8 ⟨rfl, hb8⟩; have HB8 := Aside0.mk (below_step HBg2.out hb8); have HG8 := Aside0.mk (blk_below HXg2.out hb8); clear hb8 z0 z1 y0 y1) | ((with_reducible refine gate_dst (N := 5) rfl ?_); refine box_event ?hg (N := 5) ?hd (cs := #[.int .i64 0, .int .i64 0]) (t := 77) ?hr ?_; (case hd => rfl); (case hg => rfl); (case hr => first | (go_simp; done) | (go_simp; rfl)); intro g3 hg3 w9 hbox hb7; have z0 : w9.cell? ⟨g3, 0, none⟩ = some (.int .i64 0) := (blk_cell hbox 0).trans rfl; have z1 : w9.cell? ⟨g3, 1, none⟩ = some (.int .i64 0) := (blk_cell hbox 1).trans rfl; have y0 := blk_frozen hbox 0; have y1 := blk_frozen hbox 1; have HXg3 := Aside0.mk hbox; have HIg3 := Aside0.mk hg3; have HBg3 := Aside0.mk hb7; clear hbox hg3 hb7))
      have hg2 : w.heap.size ≤ g2 := Nat.le_of_eq HIg2.out.symm
      have hi8 : ((w9.setCell ⟨g3, 0, none⟩ (.int .i64 (x).f0)).setCell ⟨g3, 1, none⟩ (.int .i64 (x).f1)).heap[g3]? = some (.cells #[.int .i64 (x).f0, .int .i64 (x).f1] 77 (0, 0)) := blk_put (blk_put HXg3.out 0 _ rfl) 1 _ rfl
      have hg3 : w8.heap.size ≤ g3 := Nat.le_of_eq HIg3.out.symm
      have hb9 : Below w8.heap.size w8 ((w9.setCell ⟨g3, 0, none⟩ (.int .i64 (x).f0)).setCell ⟨g3, 1, none⟩ (.int .i64 (x).f1)) := (HBg3.out.setCell (p := ⟨g3, 0, none⟩) hg3 _).setCell (p := ⟨g3, 1, none⟩) hg3 _
      clear z0 z1 y0 y1
      generalize ((w9.setCell ⟨g3, 0, none⟩ (.int .i64 (x).f0)).setCell ⟨g3, 1, none⟩ (.int .i64 (x).f1)) = wa at *
      have hga := blk_below HG8.out hb9
      have HBA := Aside0.mk (below_step HB8.out hb9)
      have HI8 := Aside0.mk hi8
      have c5 := pw_cell_below HBA.out c3
      have f5 := blk_frozen (blk_below HG0.out HBA.out) 3
      have HGA := Aside0.mk hga
      clear hga hi8 hb9 c3 c4
      go_upto_region 7 with (fail)
      have hgw := blk_lt HG0.out
      have hne2 : g2 ≠ g := by omega
      have hne3 : g3 ≠ g := by have := HB8.out.size; omega
      obtain ⟨hs', hk'⟩ := AS.setc (HS.out.below HBA.out) 3 (.bool false) { s with up := false } (fun _ => rfl)
      have hib : (wa.setCell ⟨g, 3, none⟩ (.bool false)).heap[g3]? = some (.cells #[.int .i64 x.f0, .int .i64 x.f1] 77 (0, 0)) := (Below.heap_setCell _ _ _ g3 hne3).trans HI8.out
      have hgb : (wa.setCell ⟨g, 3, none⟩ (.bool false)).heap[g2]? = some (.cells #[.int .i64 0, .int .i64 0] 77 (0, 0)) := (Below.heap_setCell _ _ _ g2 hne2).trans HGA.out
      have hbb : Below w0.heap.size w0 (wa.setCell ⟨g, 3, none⟩ (.bool false)) := (below_then HB0.out HB0.out.size HBA.out).setCell (p := ⟨g, 3, none⟩) HS.out.base _
      have hkb : Kept w (wa.setCell ⟨g, 3, none⟩ (.bool false)) P := ⟨Nat.le_trans HBA.out.size hk'.1, fun k hk hS => (hk'.2 k (Nat.lt_of_lt_of_le hk HBA.out.size) hS).trans (HBA.out.block k hk)⟩
      generalize wa.setCell ⟨g, 3, none⟩ (.bool false) = wb at *
      have hbe := below_calls hs' hn
      rw [show bst higB (l.filter (dnB ({ s with up := false } : Sc))) = y from hy] at hbe
      have HS' := Aside0.mk hs'
      have HIB := Aside0.mk hib
      have HGB := Aside0.mk hgb
      have HBB := Aside0.mk hbb
      have HKB := Aside0.mk hkb
      clear hs' hib hgb hbb hkb hk' c5 f5
      go_upto_region 8 with (first | (go_at_call 80; with_reducible refine hbe.mono ?_; rintro e wc ⟨rfl, hbc⟩; have hic := blk_below HIB.out hbc; have z0 := cell0 hic; have z1 := cell1 hic; have y0 := blk_frozen hic 0; have y1 := blk_frozen hic 1; have HIC := Aside0.mk hic; have HGC := Aside0.mk (blk_below HGB.out hbc); have HBC := Aside0.mk hbc; clear hic hbc hbe))
      have hsz : w.heap.size ≤ wb.heap.size := HKB.out.1
      have hid : ((wc.setCell ⟨g3, 0, none⟩ (.int .i64 (y).f0)).setCell ⟨g3, 1, none⟩ (.int .i64 (y).f1)).heap[g3]? = some (.cells #[.int .i64 (y).f0, .int .i64 (y).f1] 77 (0, 0)) := blk_put (blk_put HIC.out 0 _ rfl) 1 _ rfl
      have hne : g2 ≠ g3 := by
        have := blk_lt HG8.out
        omega
      have hgd : ((wc.setCell ⟨g3, 0, none⟩ (.int .i64 (y).f0)).setCell ⟨g3, 1, none⟩ (.int .i64 (y).f1)).heap[g2]? = some (.cells #[.int .i64 0, .int .i64 0] 77 (0, 0)) := by
        rw [Below.heap_setCell _ _ _ g2 hne, Below.heap_setCell _ _ _ g2 hne]
        exact HGC.out
      have hg3b : w.heap.size ≤ g3 := Nat.le_trans HB8.out.size hg3
      have hKD : Kept wb ((wc.setCell ⟨g3, 0, none⟩ (.int .i64 (y).f0)).setCell ⟨g3, 1, none⟩ (.int .i64 (y).f1)) (fun k => k = g3) := ⟨by rw [World.size_setCell, World.size_setCell]; exact HBC.out.size, fun k hk hS => by rw [Below.heap_setCell _ _ _ k hS, Below.heap_setCell _ _ _ k hS]; exact HBC.out.block k hk⟩
      have hBD : Below w0.heap.size w0 ((wc.setCell ⟨g3, 0, none⟩ (.int .i64 (y).f0)).setCell ⟨g3, 1, none⟩ (.int .i64 (y).f1)) := ((below_then HBB.out HBB.out.size HBC.out).setCell (p := ⟨g3, 0, none⟩) (Nat.le_trans HB0.out.size hg3b) _).setCell (p := ⟨g3, 1, none⟩) (Nat.le_trans HB0.out.size hg3b) _
      have HKD := Aside0.mk hKD
      have HBD := Aside0.mk hBD
      clear z0 z1 y0 y1 hKD hBD
      generalize ((wc.setCell ⟨g3, 0, none⟩ (.int .i64 (y).f0)).setCell ⟨g3, 1, none⟩ (.int .i64 (y).f1)) = wd at *
      have x0 : wd.cell? ⟨g3, 0, none⟩ = some (.int .i64 y.f0) := (blk_cell hid 0).trans rfl
      have x1 : wd.cell? ⟨g3, 1, none⟩ = some (.int .i64 y.f1) := (blk_cell hid 1).trans rfl
      have z0 := cell0 hgd
      have z1 := cell1 hgd
      have y0 := blk_frozen hgd 0
      have y1 := blk_frozen hgd 1
      have HGD := Aside0.mk hgd
      clear hgd hid
      go_wp2
      (try simp only [Exit.inBlock, Exit.then])
      refine bodyPost_ret (ret_cell rfl _ _ g2 y rfl (blk_put (blk_put HGD.out 0 _ rfl) 1 _ rfl)) rfl ?_
      have hKE : Kept wb ((wd.setCell ⟨g2, 0, none⟩ (.int .i64 y.f0)).setCell ⟨g2, 1, none⟩ (.int .i64 y.f1)) (fun k => k = g3 ∨ k = g2) := ⟨by rw [World.size_setCell, World.size_setCell]; exact HKD.out.1, fun k hk hS => by rw [Below.heap_setCell _ _ _ k (fun e => hS (.inr e)), Below.heap_setCell _ _ _ k (fun e => hS (.inr e))]; exact HKD.out.2 k hk (fun e => hS (.inl e))⟩
      exact ⟨rfl, (HS'.out.kept hKE (fun k h1 h2 => by have := hP k h1; rcases h2 with h2 | h2 <;> omega)).mono (fun _ hk => hk.1), (HBD.out.setCell (p := ⟨g2, 0, none⟩) (Nat.le_trans HB0.out.size hg2) _).setCell (p := ⟨g2, 1, none⟩) (Nat.le_trans HB0.out.size hg2) _, Nat.le_trans hsz hKE.1, fun k hk hS => (hKE.2 k (Nat.lt_of_lt_of_le hk hsz) (fun e => by rcases e with e | e <;> omega)).trans (HKB.out.2 k hk hS)⟩

  | false =>
    have HUP := Aside0.mk hup
    clear hup
    by_cases hp : 0 < (l.filter (dnB s)).length
    · have hab := fun W (hb : Below w.heap.size w W) => below_calls (HS.out.below hb) hn
      obtain ⟨x, hx⟩ : ∃ x, bst higB (l.filter (dnB s)) = x := ⟨_, rfl⟩
      rw [hx] at hab
      have c3 : w.cell? ⟨g, 3, none⟩ = some (.bool false) := (blk_cell HG0.out 3).trans (by rw [← HUP.out]; rfl)
      rw [decide_eq_true hp] at hab
      have hr : scanA s l = (x, false) := by unfold scanA; rw [HUP.out]; simp [hp, hx]
      rw [hr]
      clear hp hx hr
      go_enter Try.func66, Try.ntmps66
      go_upto_region 2 with (first | ((with_reducible refine gate_dst (N := 2) rfl ?_); refine box_event ?hg (N := 2) ?hd (cs := #[.int .i64 0, .int .i64 0]) (t := 77) ?hr ?_; (case hd => rfl); (case hg => rfl); (case hr => first | (go_simp; done) | (go_simp; rfl)); intro g2 hg2 w6 hbox hb7; have z0 : w6.cell? ⟨g2, 0, none⟩ = some (.int .i64 0) := (blk_cell hbox 0).trans rfl; have z1 : w6.cell? ⟨g2, 1, none⟩ = some (.int .i64 0) := (blk_cell hbox 1).trans rfl; have y0 := blk_frozen hbox 0; have y1 := blk_frozen hbox 1; have HXg2 := Aside0.mk hbox; have HIg2 := Aside0.mk hg2; have HBg2 := Aside0.mk hb7; clear hbox hg2 hb7))
      have c4 := pw_cell_below HBg2.out c3
      go_upto_region 5 with (first | (go_at_call 80; with_reducible refine (hab _ HBg2.out).mono ?_; rintro e w8 ⟨rfl, hb8⟩; have HB8 := Aside0.mk (below_step HBg2.out hb8); have HG8 := Aside0.mk (blk_below HXg2.out hb8); clear hb8 z0 z1 y0 y1) | ((with_reducible refine gate_dst (N := 5) rfl ?_); refine box_event ?hg (N := 5) ?hd (cs := #[.int .i64 0, .int .i64 0]) (t := 77) ?hr ?_; (case hd => rfl); (case hg => rfl); (case hr => first | (go_simp; done) | (go_simp; rfl)); intro g3 hg3 w9 hbox hb7; have z0 : w9.cell? ⟨g3, 0, none⟩ = some (.int .i64 0) := (blk_cell hbox 0).trans rfl; have z1 : w9.cell? ⟨g3, 1, none⟩ = some (.int .i64 0) := (blk_cell hbox 1).trans rfl; have y0 := blk_frozen hbox 0; have y1 := blk_frozen hbox 1; have HXg3 := Aside0.mk hbox; have HIg3 := Aside0.mk hg3; have HBg3 := Aside0.mk hb7; clear hbox hg3 hb7))
      have hg2 : w.heap.size ≤ g2 := Nat.le_of_eq HIg2.out.symm
      have hi8 : ((w9.setCell ⟨g3, 0, none⟩ (.int .i64 (x).f0)).setCell ⟨g3, 1, none⟩ (.int .i64 (x).f1)).heap[g3]? = some (.cells #[.int .i64 (x).f0, .int .i64 (x).f1] 77 (0, 0)) := blk_put (blk_put HXg3.out 0 _ rfl) 1 _ rfl
      have hg3 : w8.heap.size ≤ g3 := Nat.le_of_eq HIg3.out.symm
      have hb9 : Below w8.heap.size w8 ((w9.setCell ⟨g3, 0, none⟩ (.int .i64 (x).f0)).setCell ⟨g3, 1, none⟩ (.int .i64 (x).f1)) := (HBg3.out.setCell (p := ⟨g3, 0, none⟩) hg3 _).setCell (p := ⟨g3, 1, none⟩) hg3 _
      clear z0 z1 y0 y1
      generalize ((w9.setCell ⟨g3, 0, none⟩ (.int .i64 (x).f0)).setCell ⟨g3, 1, none⟩ (.int .i64 (x).f1)) = wa at *
      have hga := blk_below HG8.out hb9
      have HBA := Aside0.mk (below_step HB8.out hb9)
      have HI8 := Aside0.mk hi8
      have x0 : wa.cell? ⟨g3, 0, none⟩ = some (.int .i64 x.f0) := (blk_cell hi8 0).trans rfl
      have x1 : wa.cell? ⟨g3, 1, none⟩ = some (.int .i64 x.f1) := (blk_cell hi8 1).trans rfl
      have z0 := cell0 hga
      have z1 := cell1 hga
      have y0 := blk_frozen hga 0
      have y1 := blk_frozen hga 1
      have HGA := Aside0.mk hga
      clear hga hi8 hb9
      go_wp2
      (try simp only [Exit.inBlock, Exit.then])
      refine bodyPost_ret (ret_cell rfl _ _ g2 x rfl (blk_put (blk_put HGA.out 0 _ rfl) 1 _ rfl)) rfl ?_
      have hbe : Below w.heap.size w ((wa.setCell ⟨g2, 0, none⟩ (.int .i64 x.f0)).setCell ⟨g2, 1, none⟩ (.int .i64 x.f1)) := (HBA.out.setCell (p := ⟨g2, 0, none⟩) hg2 _).setCell (p := ⟨g2, 1, none⟩) hg2 _
      have hs' : ({ s with up := false } : Sc) = s := by rw [← HUP.out]
      refine ⟨rfl, ?_, below_then HB0.out HB0.out.size hbe, kept_below _ hbe⟩
      show AS w0.heap.size P _ g { s with up := false } l
      rw [hs']
      exact HS.out.below hbe

    · have hab := fun W (hb : Below w.heap.size w W) => below_calls (HS.out.below hb) hn
      obtain ⟨x, hx⟩ : ∃ x, bst higB (l.filter (dnB s)) = x := ⟨_, rfl⟩
      rw [hx] at hab
      have c3 : w.cell? ⟨g, 3, none⟩ = some (.bool false) := (blk_cell HG0.out 3).trans (by rw [← HUP.out]; rfl)
      rw [decide_eq_false hp] at hab
      obtain ⟨y, hy⟩ : ∃ y, bst lowB (l.filter (upB s)) = y := ⟨_, rfl⟩
      have hr : scanA s l = (y, true) := by unfold scanA; rw [HUP.out]; simp only [reduceCtorEq, if_false, if_neg hp, hy]
      rw [hr]
      clear hp hx hr
      go_enter Try.func66, Try.ntmps66
      go_upto_region 2 with (first | ((with_reducible refine gate_dst (N := 2) rfl ?_); refine box_event ?hg (N := 2) ?hd (cs := #[.int .i64 0, .int .i64 0]) (t := 77) ?hr ?_; (case hd => rfl); (case hg => rfl); (case hr => first | (go_simp; done) | (go_simp; rfl)); intro g2 hg2 w6 hbox hb7; have z0 : w6.cell? ⟨g2, 0, none⟩ = some (.int .i64 0) := (blk_cell hbox 0).trans rfl; have z1 : w6.cell? ⟨g2, 1, none⟩ = some (.int .i64 0) := (blk_cell hbox 1).trans rfl; have y0 := blk_frozen hbox 0; have y1 := blk_frozen hbox 1; have HXg2 := Aside0.mk hbox; have HIg2 := Aside0.mk hg2; have HBg2 := Aside0.mk hb7; clear hbox hg2 hb7))
      have c4 := pw_cell_below HBg2.out c3
      go_upto_region 5 with (first | (go_at_call 80; with_reducible refine (hab _ HBg2.out).mono ?_; rintro e w8 ⟨rfl, hb8⟩; have HB8 := Aside0.mk (below_step HBg2.out hb8); have HG8 := Aside0.mk (blk_below HXg2.out hb8); clear hb8 z0 z1 y0 y1) | ((with_reducible refine gate_dst (N := 5) rfl ?_); refine box_event ?hg (N := 5) ?hd (cs := #[.int .i64 0, .int .i64 0]) (t := 77) ?hr ?_; (case hd => rfl); (case hg => rfl); (case hr => first | (go_simp; done) | (go_simp; rfl)); intro g3 hg3 w9 hbox hb7; have z0 : w9.cell? ⟨g3, 0, none⟩ = some (.int .i64 0) := (blk_cell hbox 0).trans rfl; have z1 : w9.cell? ⟨g3, 1, none⟩ = some (.int .i64 0) := (blk_cell hbox 1).trans rfl; have y0 := blk_frozen hbox 0; have y1 := blk_frozen hbox 1; have HXg3 := Aside0.mk hbox; have HIg3 := Aside0.mk hg3; have HBg3 := Aside0.mk hb7; clear hbox hg3 hb7))
      have hg2 : w.heap.size ≤ g2 := Nat.le_of_eq HIg2.out.symm
      have hi8 : ((w9.setCell ⟨g3, 0, none⟩ (.int .i64 (x).f0)).setCell ⟨g3, 1, none⟩ (.int .i64 (x).f1)).heap[g3]? = some (.cells #[.int .i64 (x).f0, .int .i64 (x).f1] 77 (0, 0)) := blk_put (blk_put HXg3.out 0 _ rfl) 1 _ rfl
      have hg3 : w8.heap.size ≤ g3 := Nat.le_of_eq HIg3.out.symm
      have hb9 : Below w8.heap.size w8 ((w9.setCell ⟨g3, 0, none⟩ (.int .i64 (x).f0)).setCell ⟨g3, 1, none⟩ (.int .i64 (x).f1)) := (HBg3.out.setCell (p := ⟨g3, 0, none⟩) hg3 _).setCell (p := ⟨g3, 1, none⟩) hg3 _
      clear z0 z1 y0 y1
      generalize ((w9.setCell ⟨g3, 0, none⟩ (.int .i64 (x).f0)).setCell ⟨g3, 1, none⟩ (.int .i64 (x).f1)) = wa at *
      have hga := blk_below HG8.out hb9
      have HBA := Aside0.mk (below_step HB8.out hb9)
      have HI8 := Aside0.mk hi8
      have c5 := pw_cell_below HBA.out c3
      have f5 := blk_frozen (blk_below HG0.out HBA.out) 3
      have HGA := Aside0.mk hga
      clear hga hi8 hb9 c3 c4
      go_upto_region 7 with (fail)
      have hgw := blk_lt HG0.out
      have hne2 : g2 ≠ g := by omega
      have hne3 : g3 ≠ g := by have := HB8.out.size; omega
      obtain ⟨hs', hk'⟩ := AS.setc (HS.out.below HBA.out) 3 (.bool true) { s with up := true } (fun _ => rfl)
      have hib : (wa.setCell ⟨g, 3, none⟩ (.bool true)).heap[g3]? = some (.cells #[.int .i64 x.f0, .int .i64 x.f1] 77 (0, 0)) := (Below.heap_setCell _ _ _ g3 hne3).trans HI8.out
      have hgb : (wa.setCell ⟨g, 3, none⟩ (.bool true)).heap[g2]? = some (.cells #[.int .i64 0, .int .i64 0] 77 (0, 0)) := (Below.heap_setCell _ _ _ g2 hne2).trans HGA.out
      have hbb : Below w0.heap.size w0 (wa.setCell ⟨g, 3, none⟩ (.bool true)) := (below_then HB0.out HB0.out.size HBA.out).setCell (p := ⟨g, 3, none⟩) HS.out.base _
      have hkb : Kept w (wa.setCell ⟨g, 3, none⟩ (.bool true)) P := ⟨Nat.le_trans HBA.out.size hk'.1, fun k hk hS => (hk'.2 k (Nat.lt_of_lt_of_le hk HBA.out.size) hS).trans (HBA.out.block k hk)⟩
      generalize wa.setCell ⟨g, 3, none⟩ (.bool true) = wb at *
      have hbe := above_calls hs' hn
      rw [show bst lowB (l.filter (upB ({ s with up := true } : Sc))) = y from hy] at hbe
      have HS' := Aside0.mk hs'
      have HIB := Aside0.mk hib
      have HGB := Aside0.mk hgb
      have HBB := Aside0.mk hbb
      have HKB := Aside0.mk hkb
      clear hs' hib hgb hbb hkb hk' c5 f5
      go_upto_region 8 with (first | (go_at_call 79; with_reducible refine hbe.mono ?_; rintro e wc ⟨rfl, hbc⟩; have hic := blk_below HIB.out hbc; have z0 := cell0 hic; have z1 := cell1 hic; have y0 := blk_frozen hic 0; have y1 := blk_frozen hic 1; have HIC := Aside0.mk hic; have HGC := Aside0.mk (blk_below HGB.out hbc); have HBC := Aside0.mk hbc; clear hic hbc hbe))
      have hsz : w.heap.size ≤ wb.heap.size := HKB.out.1
      have hid : ((wc.setCell ⟨g3, 0, none⟩ (.int .i64 (y).f0)).setCell ⟨g3, 1, none⟩ (.int .i64 (y).f1)).heap[g3]? = some (.cells #[.int .i64 (y).f0, .int .i64 (y).f1] 77 (0, 0)) := blk_put (blk_put HIC.out 0 _ rfl) 1 _ rfl
      have hne : g2 ≠ g3 := by
        have := blk_lt HG8.out
        omega
      have hgd : ((wc.setCell ⟨g3, 0, none⟩ (.int .i64 (y).f0)).setCell ⟨g3, 1, none⟩ (.int .i64 (y).f1)).heap[g2]? = some (.cells #[.int .i64 0, .int .i64 0] 77 (0, 0)) := by
        rw [Below.heap_setCell _ _ _ g2 hne, Below.heap_setCell _ _ _ g2 hne]
        exact HGC.out
      have hg3b : w.heap.size ≤ g3 := Nat.le_trans HB8.out.size hg3
      have hKD : Kept wb ((wc.setCell ⟨g3, 0, none⟩ (.int .i64 (y).f0)).setCell ⟨g3, 1, none⟩ (.int .i64 (y).f1)) (fun k => k = g3) := ⟨by rw [World.size_setCell, World.size_setCell]; exact HBC.out.size, fun k hk hS => by rw [Below.heap_setCell _ _ _ k hS, Below.heap_setCell _ _ _ k hS]; exact HBC.out.block k hk⟩
      have hBD : Below w0.heap.size w0 ((wc.setCell ⟨g3, 0, none⟩ (.int .i64 (y).f0)).setCell ⟨g3, 1, none⟩ (.int .i64 (y).f1)) := ((below_then HBB.out HBB.out.size HBC.out).setCell (p := ⟨g3, 0, none⟩) (Nat.le_trans HB0.out.size hg3b) _).setCell (p := ⟨g3, 1, none⟩) (Nat.le_trans HB0.out.size hg3b) _
      have HKD := Aside0.mk hKD
      have HBD := Aside0.mk hBD
      clear z0 z1 y0 y1 hKD hBD
      generalize ((wc.setCell ⟨g3, 0, none⟩ (.int .i64 (y).f0)).setCell ⟨g3, 1, none⟩ (.int .i64 (y).f1)) = wd at *
      have x0 : wd.cell? ⟨g3, 0, none⟩ = some (.int .i64 y.f0) := (blk_cell hid 0).trans rfl
      have x1 : wd.cell? ⟨g3, 1, none⟩ = some (.int .i64 y.f1) := (blk_cell hid 1).trans rfl
      have z0 := cell0 hgd
      have z1 := cell1 hgd
      have y0 := blk_frozen hgd 0
      have y1 := blk_frozen hgd 1
      have HGD := Aside0.mk hgd
      clear hgd hid
      go_wp2
      (try simp only [Exit.inBlock, Exit.then])
      refine bodyPost_ret (ret_cell rfl _ _ g2 y rfl (blk_put (blk_put HGD.out 0 _ rfl) 1 _ rfl)) rfl ?_
      have hKE : Kept wb ((wd.setCell ⟨g2, 0, none⟩ (.int .i64 y.f0)).setCell ⟨g2, 1, none⟩ (.int .i64 y.f1)) (fun k => k = g3 ∨ k = g2) := ⟨by rw [World.size_setCell, World.size_setCell]; exact HKD.out.1, fun k hk hS => by rw [Below.heap_setCell _ _ _ k (fun e => hS (.inr e)), Below.heap_setCell _ _ _ k (fun e => hS (.inr e))]; exact HKD.out.2 k hk (fun e => hS (.inl e))⟩
      exact ⟨rfl, (HS'.out.kept hKE (fun k h1 h2 => by have := hP k h1; rcases h2 with h2 | h2 <;> omega)).mono (fun _ hk => hk.1), (HBD.out.setCell (p := ⟨g2, 0, none⟩) (Nat.le_trans HB0.out.size hg2) _).setCell (p := ⟨g2, 1, none⟩) (Nat.le_trans HB0.out.size hg2) _, Nat.le_trans hsz hKE.1, fun k hk hS => (hKE.2 k (Nat.lt_of_lt_of_le hk hsz) (fun e => by rcases e with e | e <;> omega)).trans (HKB.out.2 k hk hS)⟩

end Go.Proofs.Ytfbjeiloefocgaa.CC
