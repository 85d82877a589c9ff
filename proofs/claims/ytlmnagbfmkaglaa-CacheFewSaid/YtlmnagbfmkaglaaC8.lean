import Derived.Test.YtlmnagbfmkaglaaC7
/-! Contracts of the package cache: Use. -/
namespace Go.Proofs.Ytlmnagbfmkaglaa.CC
open Go.RowKit Go.Proofs.Ytlmnagbfmkaglaa.PG Go.Proofs.YtlmnagbfmkaglaaW.PrintWords Go.Proofs.YtlmnagbfmkaglaaW.PrintLast Go.Proofs.YtlmnagbfmkaglaaW.PrintMore
theorem CS.fresh {B : Nat} {P : Nat → Prop} {w w2 : World} {g : Nat} {most hand : Int} {row : List S59} (h : CS B P w g most row hand) : CS B (fun k => P k ∨ w2.heap.size ≤ k) w g most row hand := h.mono (fun _ hk => .inl hk)
theorem Use_calls (g : Nat) (P : Nat → Prop) (most : Int) (hand : Nat) (row : List S59) (b : Int) (w0 w : World) (hB : Below w0.heap.size w0 w) (h : CS w0.heap.size P w g most row (hand : Int)) (hn : row.length < 1000) (hinv : hand < row.length ∨ hand = 0) (hm : 1 ≤ most) :
    Calls Try.prog 11 #[.pointer (some ⟨g, 0, none⟩), .int .i64 b] w fun e w' => e = .returned (.tuple #[.int .i64 (useC most row hand b).1.1, .int .i64 (useC most row hand b).1.2]) ∧ CS w0.heap.size (fun k => P k ∨ w.heap.size ≤ k) w' g most (useC most row hand b).2.1 ((useC most row hand b).2.2 : Nat) ∧ Below w0.heap.size w0 w' ∧ Kept w w' P := by
  unfold useC
  by_cases h1 : b < 0 ∨ 96 ≤ b
  · rw [if_pos h1]
    exact (Use_range g b h1 w).mono fun e w' ⟨he, hb⟩ => ⟨he, (h.below hb).fresh, below_then hB hB.size hb, kept_below _ hb⟩
  · rw [if_neg h1]
    by_cases h2 : 0 ≤ ix row b
    · rw [if_pos h2]
      exact (Use_hit g P most hand row b w0 w hB h hn (by omega) h2).mono fun e w' ⟨he, hc, hb, hk⟩ => ⟨he, hc.fresh, hb, hk⟩
    · rw [if_neg h2]
      by_cases h3 : (row.length : Int) < most
      · rw [if_pos h3]
        exact Use_room g P most hand row b w0 w hB h hn (by omega) (by omega) h3 (by omega)
      · rw [if_neg h3]
        by_cases h4 : row.any canB = false
        · rw [if_pos h4]
          exact (Use_full g P most hand row b w0 w hB h hn (by omega) (by omega) (by omega) h4).mono fun e w' ⟨he, hb⟩ => ⟨he, (h.below hb).fresh, below_then hB hB.size hb, kept_below _ hb⟩
        · rw [if_neg h4]
          exact (Use_clock g P most hand row b w0 w hB h hn (by omega) (by omega) (by omega) (by simpa using h4) (by omega) _ rfl).mono fun e w' ⟨he, hc, hb, hk⟩ => ⟨he, hc.fresh, hb, hk⟩
end Go.Proofs.Ytlmnagbfmkaglaa.CC
