import Derived.RangeFuncNested
import Derived.RangeFuncCalls
import Derived.Sort.QuietIn
import Derived.BigRegionIn
/-! A region that draws its order inside a round of a loop over a function. -/
namespace Go.Proofs.Ythembklejaabiaa.Rnd
open Go
def noDefer (ops : Array Oper) : Bool := ops.all fun o => match o.op with | .defer _ => false | _ => true
section
variable {F : Fence} {n : Nat} {P : Program} {ops : Array Oper} {Q : Exit → Act → World → Prop} {l : Nat}
theorem semAt_eq (hro : F.round = none) {o : Oper} (h : (match o.op with | .defer _ => false | _ => true) = true) (ρ : Operand → Value) : o.semAt (F.inRound l).round ρ = o.semAt F.round ρ := by
  rw [hro, Fence.inRound_round, Oper.semAt_none, Oper.semAt_some]
  intro c hc
  rw [hc] at h
  exact absurd h (by simp)
theorem wpIn_eq (hro : F.round = none) {o : Oper} (h : (match o.op with | .defer _ => false | _ => true) = true) (a : Act) (w : World) (next : Act → World → Prop) : o.wpIn (F.inRound l) n P a w next Q = o.wpIn F n P a w next Q := by
  unfold Oper.wpIn
  rw [semAt_eq hro h]
  rfl
theorem wpOpsIn_round (hro : F.round = none) (hd : noDefer ops = true) : ∀ L, wpOpsIn (F.inRound l) n P ops Q L = wpOpsIn F n P ops Q L := by
  intro L
  induction L with
  | nil => rfl
  | cons i rest ih =>
    funext a w
    simp only [wpOpsIn, ih]
    cases ho : ops[i]? with
    | none => rfl
    | some o =>
      have hm : (match o.op with | .defer _ => false | _ => true) = true := by
        have := Array.all_eq_true.1 hd i (Array.getElem?_eq_some_iff.1 ho).1
        rw [(Array.getElem?_eq_some_iff.1 ho).2] at this
        exact this
      simp only [wpIn_eq hro hm]
      rfl
theorem region_any {id : Nat} {a : Act} {w : World} (hro : F.round = none) (hm : P.follows .mixedOrders = true) (hd : noDefer ops = true)
    (h : wpAnyIn F n P .any ops Q ops.size (Array.replicate ops.size false) a { w with drawn := w.drawn + 1 }) : (Code.region id ops true).wpIn (F.inRound l) n P Q a w :=
  wpIn_region_draw fun t => by
    rw [wpOpsIn_round hro hd]
    simp only [Region.schedule, hm, Bool.true_or, if_true]
    exact wpAnyIn_sound ops.size t _ a _ h
theorem region_quiet {id : Nat} {a : Act} {w : World} {L : List Oper} (hro : F.round = none) (hm : P.follows .mixedOrders = true) (hd : noDefer L.toArray = true) (hB : Region.lexB .any L.toArray = true)
    (h : wpQuietIn F n P L.toArray (fun w' => ∃ n, w' = w.drewN n) (fun a' => ∀ w', (∃ n, w' = w.drewN n) → Q .normal a' w') L a) : (Code.region id L.toArray true).wpIn (F.inRound l) n P Q a w := by
  simp only [Region.lexB, Bool.and_eq_true] at hB
  refine region_any hro hm hd (wpAnyIn_of_quiet (C := fun w' => ∃ n, w' = w.drewN n) (Q := fun a' => ∀ w', (∃ n, w' = w.drewN n) → Q .normal a' w') hro (fun _ w' hw' h => h w' hw') _ _ _ _ ⟨1, rfl⟩ ?_)
  have := wpAnyQIn_lex (F := F) (n := n) (C := fun w' => ∃ n, w' = w.drewN n) (md := .any) hB.1 L 0 (Array.replicate L.toArray.size false) a (by simp) (by simpa using hB.2) h
  simpa using this
end
end Go.Proofs.Ythembklejaabiaa.Rnd
