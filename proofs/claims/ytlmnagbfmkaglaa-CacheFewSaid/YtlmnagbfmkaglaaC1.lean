import Derived.Test.YtlmnagbfmkaglaaC0
/-! Contracts of the package cache: New, Has, Pins, Pin, Dirty. -/
namespace Go.Proofs.Ytlmnagbfmkaglaa.CC
open Go.RowKit Go.Proofs.Ytlmnagbfmkaglaa.PG Go.Proofs.YtlmnagbfmkaglaaW.PrintWords Go.Proofs.YtlmnagbfmkaglaaW.PrintLast Go.Proofs.YtlmnagbfmkaglaaW.PrintMore
attribute [local go_sem] Oper.semAt_some
/-- A cache in memory: what it may have, its row, its hand. -/
structure CS (B : Nat) (P : Nat → Prop) (w : World) (g : Nat) (most : Int) (row : List S59) (hand : Int) : Prop where
  base : B ≤ g
  mine : P g
  held : ∃ v, w.heap[g]? = some (.cells #[.int .i64 most, v, .int .i64 hand] 55 (0, 0)) ∧ Kd.R k59 59 w B P v row
theorem CS.below {B : Nat} {P : Nat → Prop} {w w' : World} {g : Nat} {most hand : Int} {row : List S59} (h : CS B P w g most row hand) (hb : Below w.heap.size w w') : CS B P w' g most row hand := by
  obtain ⟨h1, h2, v, h3, h4⟩ := h
  exact ⟨h1, h2, v, blk_below h3 hb, Kd.R_below h4 hb⟩
theorem CS.mono {B : Nat} {P P' : Nat → Prop} {w : World} {g : Nat} {most hand : Int} {row : List S59} (h : CS B P w g most row hand) (hP : ∀ k, P k → P' k) : CS B P' w g most row hand := by
  obtain ⟨h1, h2, v, h3, h4⟩ := h
  exact ⟨h1, hP _ h2, v, h3, Kd.R_mono h4 hP⟩
theorem CS.kept {B : Nat} {P S : Nat → Prop} {w w' : World} {g : Nat} {most hand : Int} {row : List S59} (h : CS B P w g most row hand) (hk : Kept w w' S) (hd : ∀ k, P k → ¬ S k) : CS B (fun k => P k ∧ k < w.heap.size) w' g most row hand := by
  obtain ⟨h1, h2, v, h3, h4⟩ := h
  have hlt : g < w.heap.size := blk_lt h3
  refine ⟨h1, ⟨h2, hlt⟩, v, ?_, Kd.R_mono (Kd.R_keptB h4 hk hd) (fun k hk => ⟨hk.1, hk.2.2⟩)⟩
  rw [hk.2 g hlt (hd g h2)]; exact h3
theorem kept_below {w w' : World} (S : Nat → Prop) (h : Below w.heap.size w w') : Kept w w' S := ⟨h.size, fun k hk _ => h.block k hk⟩
theorem New_no (n : Int) (hn : n < 1 ∨ 96 < n) (w : World) : Calls Try.prog 10 #[.int .i64 n] w fun e w' => e = .returned (.pointer none) ∧ Below w.heap.size w w' := by
  by_cases h1 : n < 1
  · have d1 : decide (n < 1) = true := by simpa using h1
    go_enter Try.func10, Try.ntmps10
    go_wp2
    go_ret
    exact ⟨rfl, Below.refl _ _⟩
  · have d1 : decide (n < 1) = false := by simpa using h1
    have d2 : decide (96 < n) = true := by simp; omega
    go_enter Try.func10, Try.ntmps10
    go_wp2
    go_ret
    exact ⟨rfl, Below.refl _ _⟩
theorem New_ok (n : Int) (h1 : 1 ≤ n) (h2 : n ≤ 96) (w : World) : Calls Try.prog 10 #[.int .i64 n] w fun e w' => (∃ g, e = .returned (.pointer (some ⟨g, 0, none⟩)) ∧ CS w.heap.size (fun k => w.heap.size ≤ k) w' g n [] 0) ∧ Below w.heap.size w w' := by
  have d1 : decide (n < 1) = false := by simp; omega
  have d2 : decide (96 < n) = false := by simp; omega
  go_enter Try.func10, Try.ntmps10
  go_wp2_with (first | ((with_reducible refine gate_dst (N := 11) rfl ?_); refine box_event ?hg (N := 11) ?hd (cs := #[.int .i64 n, .slice none 0 0, .int .i64 0]) (t := 55) ?hr ?_; (case hd => rfl); (case hg => rfl); (case hr => first | (go_simp; done) | (go_simp; rfl)); intro gb hg w5 hbox hb; have HBX := Aside0.mk hb; have HX := Aside0.mk hbox; have HG := Aside0.mk hg; clear hb hbox hg))
  go_ret
  have hgb := HG.out
  exact ⟨⟨gb, rfl, by omega, by omega, _, HX.out, Kd.R_nil _ _ _ _ _⟩, HBX.out⟩
theorem Has_nil (b : Int) (w : World) : Calls Try.prog 15 #[.pointer none, .int .i64 b] w fun e w' => e = .returned (.bool false) ∧ Below w.heap.size w w' := by
  go_enter Try.func15, Try.ntmps15
  go_wp2_with (go_at_call 25; with_reducible refine (find_nil b _).mono ?_; rintro e w' ⟨rfl, hb⟩)
  go_ret
  exact ⟨rfl, hb⟩
/-- A block is at hand. -/
def hasC (row : List S59) (b : Int) : Bool := decide (0 ≤ ix row b)
theorem Has_calls (B : Nat) (P : Nat → Prop) (g : Nat) (most hand : Int) (row : List S59) (b : Int) (w : World) (h : CS B P w g most row hand) (hn : row.length < 1000) :
    Calls Try.prog 15 #[.pointer (some ⟨g, 0, none⟩), .int .i64 b] w fun e w' => e = .returned (.bool (hasC row b)) ∧ Below w.heap.size w w' := by
  obtain ⟨-, -, v, hg, hR⟩ := h
  obtain ⟨A, c, rfl, -, hC⟩ := Kd.R_reads hR
  have hf := fun W (hb : Below w.heap.size w W) => find_calls g most hand A c row b W (blk_below hg hb) (Kd.C_below hC hb) (by omega)
  have hf0 := hf w (Below.refl _ _)
  clear hf
  unfold hasC
  rcases ix_range row b with hm | ⟨h0, h1⟩
  · rw [hm] at hf0 ⊢
    have e0 : fp (.slice A row.length c) (-1) = .pointer none := by cases A <;> rfl
    rw [e0] at hf0
    go_enter Try.func15, Try.ntmps15
    go_wp2_with (go_at_call 25; with_reducible refine hf0.mono ?_; rintro e w' ⟨rfl, hb⟩)
    go_ret
    exact ⟨rfl, hb⟩
  · obtain ⟨n, hnn⟩ := Int.eq_ofNat_of_zero_le h0
    rw [hnn] at hf0 h1 ⊢
    obtain ⟨ad, e, -⟩ := at_T59 hC (n : Int) (by omega) h1
    cases e
    have e0 : fp (.slice (some ad) row.length c) (n : Int) = .pointer (some (ad.add (n * 4))) := by simp [fp]
    rw [e0] at hf0
    have d0 : decide (0 ≤ (n : Int)) = true := by simp
    rw [d0]
    go_enter Try.func15, Try.ntmps15
    go_wp2_with (go_at_call 25; with_reducible refine hf0.mono ?_; rintro e w' ⟨rfl, hb⟩)
    go_ret
    exact ⟨rfl, hb⟩
end Go.Proofs.Ytlmnagbfmkaglaa.CC
