import Derived.Test.YtehjmmedghcndaaCM
import Derived.Test.YtehjmmedghcndaaLT
/-! Stores of whole groups: into a box, into a row of groups; recount as it stands. -/
namespace Go.Proofs.Ytehjmmedghcndaa.PG
open Go.RowKit Go.Proofs.YtehjmmedghcndaaW.PrintWords Go.Proofs.YtehjmmedghcndaaW.PrintLast Go.Proofs.YtehjmmedghcndaaW.PrintMore
attribute [local go_sem] Oper.semAt_some
/-- The seven cells of a group. -/
def cells7 (z0 z1 z2 z3 z4 : Int) (v5 v6 : Value) : List Value := [.int .i64 z0, .int .i64 z1, .int .i64 z2, .int .i64 z3, .int .i64 z4, v5, v6]
theorem list7 {α : Type} : ∀ (l : List α), l.length = 7 → ∃ c0 c1 c2 c3 c4 c5 c6, l = [c0, c1, c2, c3, c4, c5, c6]
 | [c0, c1, c2, c3, c4, c5, c6], _ => ⟨c0, c1, c2, c3, c4, c5, c6, rfl⟩
theorem list2 {α : Type} : ∀ (l : List α), l.length = 2 → ∃ c0 c1, l = [c0, c1]
 | [c0, c1], _ => ⟨c0, c1, rfl⟩
theorem blk_put7 {w : World} {g : Nat} {t : TypeId} {cs : Array Value} (h : w.heap[g]? = some (.cells cs t (0, 0))) (hs : cs.size = 7) (v0 v1 v2 v3 v4 v5 v6 : Value) :
  (((((((w.setCell ⟨g, 0, none⟩ v0).setCell ⟨g, 1, none⟩ v1).setCell ⟨g, 2, none⟩ v2).setCell ⟨g, 3, none⟩ v3).setCell ⟨g, 4, none⟩ v4).setCell ⟨g, 5, none⟩ v5).setCell ⟨g, 6, none⟩ v6).heap[g]? = some (.cells #[v0, v1, v2, v3, v4, v5, v6] t (0, 0)) := by
 obtain ⟨l⟩ := cs
 obtain ⟨c0, c1, c2, c3, c4, c5, c6, rfl⟩ := list7 l hs
 exact blk_put (cs := #[v0, v1, v2, v3, v4, v5, c6]) (blk_put (cs := #[v0, v1, v2, v3, v4, c5, c6]) (blk_put (cs := #[v0, v1, v2, v3, c4, c5, c6]) (blk_put (cs := #[v0, v1, v2, c3, c4, c5, c6]) (blk_put (cs := #[v0, v1, c2, c3, c4, c5, c6]) (blk_put (cs := #[v0, c1, c2, c3, c4, c5, c6]) (blk_put h 0 v0 rfl) 1 v1 rfl) 2 v2 rfl) 3 v3 rfl) 4 v4 rfl) 5 v5 rfl) 6 v6 rfl
theorem blk_put2 {w : World} {g : Nat} {t : TypeId} {cs : Array Value} (h : w.heap[g]? = some (.cells cs t (0, 0))) (hs : cs.size = 2) (v0 v1 : Value) :
  ((w.setCell ⟨g, 0, none⟩ v0).setCell ⟨g, 1, none⟩ v1).heap[g]? = some (.cells #[v0, v1] t (0, 0)) := by
 obtain ⟨l⟩ := cs
 obtain ⟨c0, c1, rfl⟩ := list2 l hs
 exact blk_put (cs := #[v0, c1]) (blk_put h 0 v0 rfl) 1 v1 rfl
/-- A group with a new first list in its place; its second list stays. -/
theorem S_put5 {W : World} {base go n co : Nat} {xs : List S42} {v5 v6 : Value} {l5 : List Int}
  (HO : Kd.S k42 42 W base (fun k => some k ≠ v5.ownBlock) (.slice (some ⟨go, 0, none⟩) n co) xs) (H5 : Kd.R (Kd.int .i64) 3 W base (fun _ => True) v5 l5)
  (i : Int) (h0 : 0 ≤ i) (h1 : i < n) (h6 : W.cell? ⟨go, i.toNat * 7 + 6, none⟩ = some v6) (z0 z1 z2 z3 z4 : Int) :
  Kd.S k42 42 (W.setCells go (i.toNat * 7) (cells7 z0 z1 z2 z3 z4 v5 v6)) base (fun _ => True) (.slice (some ⟨go, 0, none⟩) n co) (xs.set i.toNat ⟨z0, z1, z2, z3, z4, l5, (xs.getD i.toNat z42).f6⟩) := by
 have HX : Kd.S k42 42 W base (fun k => True ∧ ¬ (some k = v5.ownBlock)) (.slice (some ⟨go, 0, none⟩) n co) xs := Kd.S_mono HO (fun k hk => ⟨trivial, hk⟩)
 obtain ⟨oki, ce, hcl, hM, hcc, hfr, hoki, hH⟩ := Kd.S_elem HX z42 i h0 h1
 obtain ⟨ve5, ve6, rfl, _, g6⟩ := k42_openM hM
 have e6 : W.cell? ⟨go, i.toNat * 7 + 6, none⟩ = some ve6 := hcc 6 _ rfl
 rw [h6] at e6
 obtain rfl := Option.some.inj e6
 have t5 := Kd.R_apart' H5 (Kd.S_typed HO) (by decide)
 exact (Kd.S_seg hH h0 h1 (seg := cells7 z0 z1 z2 z3 z4 v5 v6) (j := 0) (show 7 ≤ 7 from by decide) (x' := (⟨z0, z1, z2, z3, z4, l5, (xs.getD i.toNat z42).f6⟩ : S42)) (okp := fun k => oki k ∨ (some k = v5.ownBlock))
  (k42_mkM _ _ _ (⟨z0, z1, z2, z3, z4, l5, (xs.getD i.toNat z42).f6⟩ : S42) (Kd.R_mono (Kd.R_tight rfl H5) (fun _ h => Or.inr h)) (Kd.R_mono g6 (fun _ h => Or.inl h))) (fun _ hk => hk)
  (fun k hk => ⟨trivial, fun e => (t5.1 k hk.symm).2 (by rw [e]; rfl)⟩)).1
set_option maxHeartbeats 4000000 in
set_option maxRecDepth 100000 in
/-- recount: the lists are the very ones. -/
theorem recount_calls (a0 a1 a2 a3 a4 : Int) (A5 : Option Addr) (n5 c5 : Nat) (A6 : Option Addr) (n6 c6 : Nat) (w : World) :
  Calls Try.prog 50 #[.agg #[.int .i64 a0, .int .i64 a1, .int .i64 a2, .int .i64 a3, .int .i64 a4, .slice A5 n5 c5, .slice A6 n6 c6]] w fun e w' => e = .returned (.agg #[.int .i64 a0, .int .i64 a1, .int .i64 (wrap64 (a1 - n5)), .int .i64 (wrap64 (16 - n6)), .int .i64 a4, .slice A5 n5 c5, .slice A6 n6 c6]) ∧ Below w.heap.size w w' := by
 have hu42 := Try.underlying42
 go_enter Try.func50, Try.ntmps50
 go_upto_region 1 with (first | ((with_reducible refine gate_dst (N := 1) rfl ?_); refine box_event rfl (N := 1) rfl (cs := #[.int .i64 a0, .int .i64 a1, .int .i64 a2, .int .i64 a3, .int .i64 a4, .slice A5 n5 c5, .slice A6 n6 c6]) (t := 42) (by first | (go_simp; done) | (go_simp; rfl)) ?_; intro gb hg w2 hbox hb; have BK := Aside0.mk hbox; have HB := Aside0.mk hb; have GE := Aside0.mk (show w.heap.size ≤ gb by omega); clear hb hbox hg) | ((with_reducible refine gate_dst (N := 2) rfl ?_); refine box_event rfl (N := 2) rfl (cs := #[.int .i64 0, .int .i64 0, .int .i64 0, .int .i64 0, .int .i64 0, .slice none 0 0, .slice none 0 0]) (t := 42) (by first | (go_simp; done) | (go_simp; rfl)) ?_; intro gr hg w3 hbox hb; have BR := Aside0.mk hbox; have BK2 := Aside0.mk (blk_below BK.out hb); have HB2 := Aside0.mk (below_step HB.out hb); have GR := Aside0.mk (show w.heap.size ≤ gr by rw [hg]; exact HB.out.size); have GN := Aside0.mk (show gb ≠ gr by rw [hg]; have := blk_lt BK.out; omega); clear hb hbox hg))
 obtain ⟨c0, c1, c2, c3, c4, c5_, c6_⟩ := c7 BK2
 have z2 := blk_frozen BK2.out 2
 have z3 := blk_frozen BK2.out 3
 go_upto_region 2 with (fail)
 have B4 := Aside0.mk (blk_put (blk_put BK2.out 2 (.int .i64 (wrap64 (a1 - n5))) rfl) 3 (.int .i64 (wrap64 (16 - n6))) rfl)
 have R4 := Aside0.mk (blk_far (blk_far BR.out (p := ⟨gb, 2, none⟩) (fun e => GN.out e.symm) (.int .i64 (wrap64 (a1 - n5)))) (p := ⟨gb, 3, none⟩) (fun e => GN.out e.symm) (.int .i64 (wrap64 (16 - n6))))
 have HB4 := Aside0.mk ((HB2.out.setCell (p := ⟨gb, 2, none⟩) GE.out (.int .i64 (wrap64 (a1 - n5)))).setCell (p := ⟨gb, 3, none⟩) GE.out (.int .i64 (wrap64 (16 - n6))))
 clear c0 c1 c2 c3 c4 c5_ c6_ z2 z3 BK2 BR HB2 BK HB
 generalize ((w3.setCell ⟨gb, 2, none⟩ (.int .i64 (wrap64 (a1 - n5)))).setCell ⟨gb, 3, none⟩ (.int .i64 (wrap64 (16 - n6)))) = w4 at B4 R4 HB4 ⊢
 generalize hm5 : wrap64 (a1 - n5) = m5 at B4 ⊢
 generalize hm6 : wrap64 (16 - n6) = m6 at B4 ⊢
 have M5 := Aside0.mk hm5
 have M6 := Aside0.mk hm6
 clear hm5 hm6
 obtain ⟨c0, c1, c2, c3, c4, c5_, c6_⟩ := c7 B4
 obtain ⟨r0, r1, r2, r3, r4, r5, r6, z0, z1, z2, z3, z4, z5, z6⟩ := cf7 R4
 go_wp2
 refine bodyPost_ret (results_cell_row rfl _ _ gr 42 #[.int .i64 a0, .int .i64 a1, .int .i64 m5, .int .i64 m6, .int .i64 a4, .slice A5 n5 c5, .slice A6 n6 c6] (0, 0) _ rfl (blk_put7 R4.out rfl _ _ _ _ _ _ _) Try.underlying42 rfl (by kernel_rfl)) rfl ?_
 exact ⟨by rw [M5.out, M6.out], below_set (below_set (below_set (below_set (below_set (below_set (below_set HB4.out GR.out) GR.out) GR.out) GR.out) GR.out) GR.out) GR.out⟩
end Go.Proofs.Ytehjmmedghcndaa.PG
