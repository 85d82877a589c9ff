import Derived.Test.YtlmnagbfmkaglaaC9
/-! What must be whatever is asked: live. -/
namespace Go.Proofs.Ytlmnagbfmkaglaa.CC
open Go.RowKit Go.Proofs.Ytlmnagbfmkaglaa.PG Go.Proofs.YtlmnagbfmkaglaaW.PrintWords Go.Proofs.YtlmnagbfmkaglaaW.PrintLast Go.Proofs.YtlmnagbfmkaglaaW.PrintMore
attribute [local go_sem] Oper.semAt_some
theorem u1 : useC 2 [] 0 1 = ((-1, 0), [inF 1], 0) := by rfl
theorem u2 : useC 2 [inF 1] 0 2 = ((-1, 0), [inF 1, inF 2], 0) := by rfl
theorem u3 : useC 2 [inF 1, inF 2] 0 3 = ((1, 0), [inF 3, ⟨2, 0, false, false⟩], 1) := by rfl
theorem use_is {r : (Int × Int) × List S59 × Nat} (g : Nat) (P : Nat → Prop) (most : Int) (hand : Nat) (row : List S59) (b : Int) (w0 w : World) (hr : useC most row hand b = r) (hn : row.length < 1000) (hinv : hand < row.length ∨ hand = 0) (hm : 1 ≤ most) (hB : Below w0.heap.size w0 w) (h : CS w0.heap.size P w g most row (hand : Int)) :
    Calls Try.prog 11 #[.pointer (some ⟨g, 0, none⟩), .int .i64 b] w fun e w' => e = .returned (.tuple #[.int .i64 r.1.1, .int .i64 r.1.2]) ∧ CS w0.heap.size (fun k => P k ∨ w.heap.size ≤ k) w' g most r.2.1 (r.2.2 : Nat) ∧ Below w0.heap.size w0 w' ∧ Kept w w' P := by
  subst hr
  exact Use_calls g P most hand row b w0 w hB h hn hinv hm
theorem use1 (g : Nat) (P : Nat → Prop) (w0 w : World) (hB : Below w0.heap.size w0 w) (h : CS w0.heap.size P w g 2 [] ((0 : Nat) : Int)) : Calls Try.prog 11 #[.pointer (some ⟨g, 0, none⟩), .int .i64 1] w fun e w' => e = .returned (.tuple #[.int .i64 (-1), .int .i64 0]) ∧ CS w0.heap.size (fun k => P k ∨ w.heap.size ≤ k) w' g 2 [inF 1] ((0 : Nat) : Int) ∧ Below w0.heap.size w0 w' :=
  (use_is g P 2 0 [] 1 w0 w u1 (by decide) (.inr rfl) (by decide) hB h).mono fun _ _ ⟨h1, h2, h3, _⟩ => ⟨h1, h2, h3⟩
theorem use2 (g : Nat) (P : Nat → Prop) (w0 w : World) (hB : Below w0.heap.size w0 w) (h : CS w0.heap.size P w g 2 [inF 1] ((0 : Nat) : Int)) : Calls Try.prog 11 #[.pointer (some ⟨g, 0, none⟩), .int .i64 2] w fun e w' => e = .returned (.tuple #[.int .i64 (-1), .int .i64 0]) ∧ CS w0.heap.size (fun k => P k ∨ w.heap.size ≤ k) w' g 2 [inF 1, inF 2] ((0 : Nat) : Int) ∧ Below w0.heap.size w0 w' :=
  (use_is g P 2 0 [inF 1] 2 w0 w u2 (by decide) (.inr rfl) (by decide) hB h).mono fun _ _ ⟨h1, h2, h3, _⟩ => ⟨h1, h2, h3⟩
theorem use3 (g : Nat) (P : Nat → Prop) (w0 w : World) (hB : Below w0.heap.size w0 w) (h : CS w0.heap.size P w g 2 [inF 1, inF 2] ((0 : Nat) : Int)) : Calls Try.prog 11 #[.pointer (some ⟨g, 0, none⟩), .int .i64 3] w fun e w' => e = .returned (.tuple #[.int .i64 1, .int .i64 0]) ∧ CS w0.heap.size (fun k => P k ∨ w.heap.size ≤ k) w' g 2 [inF 3, ⟨2, 0, false, false⟩] ((1 : Nat) : Int) ∧ Below w0.heap.size w0 w' :=
  (use_is g P 2 0 [inF 1, inF 2] 3 w0 w u3 (by decide) (.inr rfl) (by decide) hB h).mono fun _ _ ⟨h1, h2, h3, _⟩ => ⟨h1, h2, h3⟩
def rowL : List S59 := [inF 3, ⟨2, 0, false, false⟩]
def rowM : List S59 := [⟨3, 1, false, true⟩, ⟨2, 0, false, false⟩]
theorem has3 (B : Nat) (P : Nat → Prop) (g : Nat) (w : World) (h : CS B P w g 2 rowL ((1 : Nat) : Int)) : Calls Try.prog 15 #[.pointer (some ⟨g, 0, none⟩), .int .i64 3] w fun e w' => e = .returned (.bool true) ∧ Below w.heap.size w w' := by
  have := Has_calls B P g 2 _ rowL 3 w h (by decide)
  rw [show hasC rowL 3 = true from rfl] at this
  exact this
theorem has1 (B : Nat) (P : Nat → Prop) (g : Nat) (w : World) (h : CS B P w g 2 rowL ((1 : Nat) : Int)) : Calls Try.prog 15 #[.pointer (some ⟨g, 0, none⟩), .int .i64 1] w fun e w' => e = .returned (.bool false) ∧ Below w.heap.size w w' := by
  have := Has_calls B P g 2 _ rowL 1 w h (by decide)
  rw [show hasC rowL 1 = false from rfl] at this
  exact this
theorem pin3 (g : Nat) (P : Nat → Prop) (w0 w : World) (hB : Below w0.heap.size w0 w) (h : CS w0.heap.size P w g 2 rowL ((1 : Nat) : Int)) : Calls Try.prog 16 #[.pointer (some ⟨g, 0, none⟩), .int .i64 3, .bool true] w fun e w' => e = .returned (.int .i64 0) ∧ CS w0.heap.size P w' g 2 rowM ((1 : Nat) : Int) ∧ Below w0.heap.size w0 w' := by
  have := Pin_calls g P 2 ((1 : Nat) : Int) rowL 3 true w0 w hB h (by decide)
  rw [show pinC rowL 3 true = (0, rowM) by kernel_rfl] at this
  exact this.mono fun _ _ ⟨h1, h2, h3, _⟩ => ⟨h1, h2, h3⟩
theorem pins3 (B : Nat) (P : Nat → Prop) (g : Nat) (w : World) (h : CS B P w g 2 rowM ((1 : Nat) : Int)) : Calls Try.prog 21 #[.pointer (some ⟨g, 0, none⟩), .int .i64 3] w fun e w' => e = .returned (.int .i64 1) ∧ Below w.heap.size w w' := by
  have := Pins_calls B P g 2 _ rowM 3 w h (by decide)
  rw [show pinsC rowM 3 = 1 from rfl] at this
  exact this
set_option maxHeartbeats 2000000 in
theorem live_calls (w : World) : Calls Try.prog 12 #[] w fun e w' => e = .returned (.bool true) ∧ Below w.heap.size w w' := by
  have hnew := fun W => New_ok 2 (by decide) (by decide) W
  go_enter Try.func12, Try.ntmps12
  go_wp2_with (first | (go_at_call 10; with_reducible refine (hnew _).mono ?_; rintro e w1 ⟨⟨g, rfl, hc⟩, hb⟩; have C0 := Aside0.mk hc; have B0 := Aside0.mk hb; clear hc hb) | (go_at_call 11; first | (with_reducible refine (use1 _ _ w _ B0.out C0.out).mono ?_; rintro e w2 ⟨rfl, hc, hb⟩; have C1 := Aside0.mk hc; have B1 := Aside0.mk hb; clear hc hb) | (with_reducible refine (use2 _ _ w _ B1.out C1.out).mono ?_; rintro e w3 ⟨rfl, hc, hb⟩; have C2 := Aside0.mk hc; have B2 := Aside0.mk hb; clear hc hb) | (with_reducible refine (use3 _ _ w _ B2.out C2.out).mono ?_; rintro e w4 ⟨rfl, hc, hb⟩; have C3 := Aside0.mk hc; have B3 := Aside0.mk hb; clear hc hb)) | (go_at_call 15; first | (with_reducible refine (has3 _ _ _ _ C3.out).mono ?_; rintro e w5 ⟨rfl, hb⟩; have C4 := Aside0.mk (C3.out.below hb); have B4 := Aside0.mk (below_then B3.out B3.out.size hb); clear hb) | (with_reducible refine (has1 _ _ _ _ C4.out).mono ?_; rintro e w6 ⟨rfl, hb⟩; have C5 := Aside0.mk (C4.out.below hb); have B5 := Aside0.mk (below_then B4.out B4.out.size hb); clear hb)) | (go_at_call 16; with_reducible refine (pin3 _ _ w _ B5.out C5.out).mono ?_; rintro e w7 ⟨rfl, hc, hb⟩; have C6 := Aside0.mk hc; have B6 := Aside0.mk hb; clear hc hb) | (go_at_call 21; with_reducible refine (pins3 _ _ _ _ C6.out).mono ?_; rintro e w8 ⟨rfl, hb⟩; have B7 := Aside0.mk (below_then B6.out B6.out.size hb); clear hb))
  go_ret
  exact ⟨rfl, B7.out⟩
end Go.Proofs.Ytlmnagbfmkaglaa.CC
