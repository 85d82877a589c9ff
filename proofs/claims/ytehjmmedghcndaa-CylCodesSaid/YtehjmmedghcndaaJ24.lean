import Derived.Test.YtehjmmedghcndaaCD
import Derived.RangeFuncNested
import Derived.RangeFuncCalls
import Derived.Sort.QuietIn
import Derived.BigRegionIn
import Derived.Test.YtehjmmedghcndaaWLast
section
/-! cyl.first, its walk. -/
namespace Go.Proofs.Ytehjmmedghcndaa.PG
open Go.RowKit Go.Proofs.YtehjmmedghcndaaW.PrintWords Go.Proofs.YtehjmmedghcndaaW.PrintLast Go.Proofs.YtehjmmedghcndaaW.PrintMore
attribute [local go_sem] Oper.semAt_some
theorem blk_far7 {w : World} {g : Nat} {t : TypeId} {cs : Array Value} (h : w.heap[g]? = some (.cells cs t (0, 0))) {q : Nat} (hne : g ≠ q) (o : Nat) (v0 v1 v2 v3 v4 v5 v6 : Value) :
  (((((((w.setCell ⟨q, o, none⟩ v0).setCell ⟨q, o + 1, none⟩ v1).setCell ⟨q, o + 2, none⟩ v2).setCell ⟨q, o + 3, none⟩ v3).setCell ⟨q, o + 4, none⟩ v4).setCell ⟨q, o + 5, none⟩ v5).setCell ⟨q, o + 6, none⟩ v6).heap[g]? = some (.cells cs t (0, 0)) :=
 blk_far (blk_far (blk_far (blk_far (blk_far (blk_far (blk_far h hne v0) hne v1) hne v2) hne v3) hne v4) hne v5) hne v6
theorem below_set7 {B : Nat} {w0 W : World} (h : Below B w0 W) {q : Nat} (hq : B ≤ q) (o : Nat) (v0 v1 v2 v3 v4 v5 v6 : Value) :
  Below B w0 (((((((W.setCell ⟨q, o, none⟩ v0).setCell ⟨q, o + 1, none⟩ v1).setCell ⟨q, o + 2, none⟩ v2).setCell ⟨q, o + 3, none⟩ v3).setCell ⟨q, o + 4, none⟩ v4).setCell ⟨q, o + 5, none⟩ v5).setCell ⟨q, o + 6, none⟩ v6) :=
 ((((((h.setCell (p := ⟨q, o, none⟩) hq v0).setCell (p := ⟨q, o + 1, none⟩) hq v1).setCell (p := ⟨q, o + 2, none⟩) hq v2).setCell (p := ⟨q, o + 3, none⟩) hq v3).setCell (p := ⟨q, o + 4, none⟩) hq v4).setCell (p := ⟨q, o + 5, none⟩) hq v5).setCell (p := ⟨q, o + 6, none⟩) hq v6
end Go.Proofs.Ytehjmmedghcndaa.PG
end
section
/-! A region that draws its order inside a round of a loop over a function. -/
namespace Go.Proofs.Ytehjmmedghcndaa.Rnd
open Go Go.Proofs.YtehjmmedghcndaaW.PrintLast
def noDefer (ops : Array Oper) : Bool := ops.all fun o => match o.op with | .defer _ => false | _ => true
section
variable {F : Fence} {n : Nat} {P : Program} {ops : Array Oper} {Q : Exit → Act → World → Prop} {l : Nat}
theorem semAt_eq (hro : F.round = none) {o : Oper} (h : (match o.op with | .defer _ => false | _ => true) = true) (ρ : Operand → Value) : o.semAt (F.inRound l).round ρ = o.semAt F.round ρ := by
 rw [hro, Fence.inRound_round, Oper.semAt_none, Oper.semAt_some]
 intro c hc
 rw [hc] at h
 exact absurd h (by simp)
theorem wpIn_eq (hro : F.round = none) {o : Oper} (h : (match o.op with | .defer _ => false | _ => true) = true) (a : Act) (w : World) (next : Act → World → Prop) : o.wpIn (F.inRound l) n P a w next Q = o.wpIn F n P a w next Q := by
 unfold Oper.wpIn
 rw [semAt_eq hro h]
 rfl
theorem wpOpsIn_round (hro : F.round = none) (hd : noDefer ops = true) : ∀ L, wpOpsIn (F.inRound l) n P ops Q L = wpOpsIn F n P ops Q L := by
 intro L
 induction L with
 | nil => rfl
 | cons i rest ih =>
  funext a w
  simp only [wpOpsIn, ih]
  cases ho : ops[i]? with
  | none => rfl
  | some o =>
   have hm : (match o.op with | .defer _ => false | _ => true) = true := by
    have := Array.all_eq_true.1 hd i (Array.getElem?_eq_some_iff.1 ho).1
    rw [(Array.getElem?_eq_some_iff.1 ho).2] at this
    exact this
   simp only [wpIn_eq hro hm]
   rfl
theorem region_any {id : Nat} {a : Act} {w : World} (hro : F.round = none) (hm : P.follows .mixedOrders = true) (hd : noDefer ops = true)
  (h : wpAnyIn F n P .any ops Q ops.size (Array.replicate ops.size false) a { w with drawn := w.drawn + 1 }) : (Code.region id ops true).wpIn (F.inRound l) n P Q a w :=
 wpIn_region_draw fun t => by
  rw [wpOpsIn_round hro hd]
  simp only [Region.schedule, hm, Bool.true_or, if_true]
  exact wpAnyIn_sound ops.size t _ a _ h
/-- The ways out of a region: none but the end and a panic. -/
def shutQ (Q : Exit → Act → World → Prop) : Exit → Act → World → Prop
 | .normal, a, w => Q .normal a w
 | .panic c, a, w => Q (.panic c) a w
 | _, _, _ => False
theorem shutQ_lets {Q : Exit → Act → World → Prop} : ¬ LetsOut (shutQ Q) := fun ⟨_, _, h⟩ => h
theorem upon_in {m : Nat} {o : Oper} {a : Act} {K K' : Act → World → Prop} {r : Result Next} (hK : ∀ a w, K a w → K' a w) (h : o.upon P a K (shutQ Q) r) : o.uponIn Fence.wide m P a K' Q r := by
 unfold Oper.upon at h
 unfold Oper.uponIn
 split at h
 ·exact hK _ _ h
 ·exact hK _ _ h
 ·exact hK _ _ h
 ·refine ⟨fun hd => (by cases hd), callsIn_wide.2 (h.mono fun e w' he => ?_)⟩
  cases e with
  | returned v => exact hK _ _ he
  | panicked c => exact he
  | outgrown => exact absurd he shutQ_lets
 ·refine ⟨fun hd => (by cases hd), ?_⟩
  exact fun c cs _ => let ⟨v, w', r, s⟩ := h c cs; ⟨v, w', hK _ _ r, stepsIn_wide.2 s⟩
 ·exact h
 ·exact h.elim
theorem op_in {m : Nat} {i : Nat} {a : Act} {w : World} {K K' : Act → World → Prop} (hK : ∀ a w, K a w → K' a w) (h : wpOp P ops (shutQ Q) i K a w) : wpOpIn Fence.wide m P ops Q i K' a w := by
 unfold wpOp at h
 unfold wpOpIn
 cases ho : ops[i]? with
 | none => rw [ho] at h; exact hK _ _ h
 | some o =>
  rw [ho] at h
  simp only at h ⊢
  by_cases hw : Region.wanted o (yielded ops a.tmps) = true
  ·rw [if_pos hw] at h ⊢
   rcases h with h | h
   ·refine ⟨fun _ _ => trivial, ?_⟩
    rw [show (Fence.wide).round = none from rfl, Oper.semAt_none]
    exact upon_in hK h
   ·exact absurd h.2 shutQ_lets
  ·rw [if_neg hw] at h ⊢
   exact ⟨fun _ _ => trivial, hK _ _ h⟩
theorem any_in {m : Nat} {md : Region.Mode} : ∀ (fuel : Nat) (listed : Array Bool) (a : Act) (w : World), wpAny P md ops (shutQ Q) fuel listed a w → wpAnyIn Fence.wide m P md ops Q fuel listed a w
 | 0, _, _, _, h => h
 | fuel + 1, _, _, _, h => ⟨h.1, fun i hi => op_in (fun a w hk => any_in fuel _ a w hk) (h.2 i hi)⟩
/-- A region that draws, in a round, at the wide fence: by the steps of a region that draws outside of it. -/
theorem start_in {id k m lr : Nat} {a : Act} {w : World} {S : World → Prop} {ds : List Nat} (lb : Array Bool) (hm : P.follows .mixedOrders = true) (hd : noDefer ops = true) (hn : ops.size = k) (hl : Array.replicate k false = lb) (hS : S w.drew)
  (h : S w.drew → wpAnyLast P .any ops (shutQ Q) S ds k lb a w.drew) : (Code.region id ops true).wpIn (Fence.wide.inRound lr) m P Q a w := by
 subst hn
 subst hl
 exact region_any rfl hm hd (any_in _ _ _ _ (wpAny_of_last _ _ _ _ (h hS)))
end
end Go.Proofs.Ytehjmmedghcndaa.Rnd
end
