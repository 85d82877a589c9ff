import Derived.Test.YtlmnagbfmkaglaaC9
/-! Contracts of the package cache: Dirty. -/
namespace Go.Proofs.Ytlmnagbfmkaglaa.CC
open Go.RowKit Go.Proofs.Ytlmnagbfmkaglaa.PG Go.Proofs.YtlmnagbfmkaglaaW.PrintWords Go.Proofs.YtlmnagbfmkaglaaW.PrintLast Go.Proofs.YtlmnagbfmkaglaaW.PrintMore
attribute [local go_sem] Oper.semAt_some
def dirtyC (row : List S59) (b : Int) (on : Bool) : Int × List S59 := if ix row b < 0 then (5, row) else (0, row.set (ix row b).toNat ⟨(row.getD (ix row b).toNat z59).f0, (row.getD (ix row b).toNat z59).f1, on, (row.getD (ix row b).toNat z59).f3⟩)
theorem Dirty_calls (g : Nat) (P : Nat → Prop) (most hand : Int) (row : List S59) (b : Int) (on : Bool) (w0 w : World) (hB : Below w0.heap.size w0 w) (h : CS w0.heap.size P w g most row hand) (hn : row.length < 1000) :
    Calls Try.prog 17 #[.pointer (some ⟨g, 0, none⟩), .int .i64 b, .bool on] w fun e w' => e = .returned (.int .i64 (dirtyC row b on).1) ∧ CS w0.heap.size P w' g most (dirtyC row b on).2 hand ∧ Below w0.heap.size w0 w' ∧ Kept w w' P := by
  have HB := Aside0.mk hB
  have HS := Aside0.mk h
  unfold dirtyC
  rcases find_cs b h hn with ⟨hm, hf⟩ | ⟨n, gr, cap, hlt, hm, -, hg, hR, hne, hP, hb0, hl, hf⟩
  · rw [hm, if_pos (by decide)]
    clear h hB
    go_enter Try.func17, Try.ntmps17
    go_wp2_with (go_at_call 25; with_reducible refine (hf _ (Below.refl _ _)).mono ?_; rintro e w' ⟨rfl, hb⟩)
    go_ret
    exact ⟨rfl, HS.out.below hb, below_then HB.out HB.out.size hb, kept_below _ hb⟩
  · rw [hm, if_neg (by omega), Int.toNat_natCast, getD_at _ _ hlt]
    have q1 := (row_cells hR n hlt).1.2.2.1
    have HR := Aside0.mk hR
    have HG := Aside0.mk hg
    clear hR hg h hB
    go_enter Try.func17, Try.ntmps17
    go_wp2_with (go_at_call 25; with_reducible refine (hf _ (Below.refl _ _)).mono ?_; rintro e w' ⟨rfl, hb⟩; have q2 := pw_cell_below hb q1; have f2 := (row_cells (Kd.R_below HR.out hb) n hlt).2 2; have HB6 := Aside0.mk hb)
    go_ret
    obtain ⟨r1, r2⟩ := row_put (Kd.R_below HR.out HB6.out) n 2 hlt (by omega) (.bool on) ⟨row[n].f0, row[n].f1, on, row[n].f3⟩ rfl
    obtain ⟨s1, s2⟩ := CS.put HS.out.base HS.out.mine hP hne (List.length_set ..) (blk_below HG.out HB6.out) r1 r2
    exact ⟨rfl, s1, below_grown (below_then HB.out HB.out.size HB6.out) r2 hb0 (Nat.le_trans HB.out.size HB6.out.size), Nat.le_trans HB6.out.size r2.size, fun k hk hS => (r2.block k (Nat.lt_of_lt_of_le hk HB6.out.size) (fun e => hS (by injection e with e; rw [e]; exact hP))).trans (HB6.out.block k hk)⟩
end Go.Proofs.Ytlmnagbfmkaglaa.CC
