import Derived.RangeFuncNested
import Derived.RangeFuncCalls
import Derived.Sort.QuietIn
import Derived.BigRegionIn
import Derived.Test.YthembklejaabiaaExt3
import Derived.Test.YthembklejaabiaaPGx0
/-! A region that draws its order inside a round of a loop over a function. -/
namespace Go.Proofs.Ythembklejaabiaa.Rnd
open Go
def noDefer (ops : Array Oper) : Bool := ops.all fun o => match o.op with | .defer _ => false | _ => true
section
variable {F : Fence} {n : Nat} {P : Program} {ops : Array Oper} {Q : Exit → Act → World → Prop} {l : Nat}
theorem semAt_eq (hro : F.round = none) {o : Oper} (h : (match o.op with | .defer _ => false | _ => true) = true) (ρ : Operand → Value) : o.semAt (F.inRound l).round ρ = o.semAt F.round ρ := by
  rw [hro, Fence.inRound_round, Oper.semAt_none, Oper.semAt_some]
  intro c hc
  rw [hc] at h
  exact absurd h (by simp)
theorem wpIn_eq (hro : F.round = none) {o : Oper} (h : (match o.op with | .defer _ => false | _ => true) = true) (a : Act) (w : World) (next : Act → World → Prop) : o.wpIn (F.inRound l) n P a w next Q = o.wpIn F n P a w next Q := by
  unfold Oper.wpIn
  rw [semAt_eq hro h]
  rfl
theorem wpOpsIn_round (hro : F.round = none) (hd : noDefer ops = true) : ∀ L, wpOpsIn (F.inRound l) n P ops Q L = wpOpsIn F n P ops Q L := by
  intro L
  induction L with
  | nil => rfl
  | cons i rest ih =>
    funext a w
    simp only [wpOpsIn, ih]
    cases ho : ops[i]? with
    | none => rfl
    | some o =>
      have hm : (match o.op with | .defer _ => false | _ => true) = true := by
        have := Array.all_eq_true.1 hd i (Array.getElem?_eq_some_iff.1 ho).1
        rw [(Array.getElem?_eq_some_iff.1 ho).2] at this
        exact this
      simp only [wpIn_eq hro hm]
      rfl
theorem region_any {id : Nat} {a : Act} {w : World} (hro : F.round = none) (hm : P.follows .mixedOrders = true) (hd : noDefer ops = true)
    (h : wpAnyIn F n P .any ops Q ops.size (Array.replicate ops.size false) a { w with drawn := w.drawn + 1 }) : (Code.region id ops true).wpIn (F.inRound l) n P Q a w :=
  wpIn_region_draw fun t => by
    rw [wpOpsIn_round hro hd]
    simp only [Region.schedule, hm, Bool.true_or, if_true]
    exact wpAnyIn_sound ops.size t _ a _ h
theorem region_quiet {id : Nat} {a : Act} {w : World} {L : List Oper} (hro : F.round = none) (hm : P.follows .mixedOrders = true) (hd : noDefer L.toArray = true) (hB : Region.lexB .any L.toArray = true)
    (h : wpQuietIn F n P L.toArray (fun w' => ∃ n, w' = w.drewN n) (fun a' => ∀ w', (∃ n, w' = w.drewN n) → Q .normal a' w') L a) : (Code.region id L.toArray true).wpIn (F.inRound l) n P Q a w := by
  simp only [Region.lexB, Bool.and_eq_true] at hB
  refine region_any hro hm hd (wpAnyIn_of_quiet (C := fun w' => ∃ n, w' = w.drewN n) (Q := fun a' => ∀ w', (∃ n, w' = w.drewN n) → Q .normal a' w') hro (fun _ w' hw' h => h w' hw') _ _ _ _ ⟨1, rfl⟩ ?_)
  have := wpAnyQIn_lex (F := F) (n := n) (C := fun w' => ∃ n, w' = w.drewN n) (md := .any) hB.1 L 0 (Array.replicate L.toArray.size false) a (by simp) (by simpa using hB.2) h
  simpa using this
end
end Go.Proofs.Ythembklejaabiaa.Rnd
/-! The contract of bitset.Runs. -/
namespace Go.Proofs.Ythembklejaabiaa.PG
open Go.RowKit Go.Proofs.YthembklejaabiaaW.PrintWords Go.Proofs.YthembklejaabiaaW.PrintLast Go.Proofs.YthembklejaabiaaW.PrintMore
open Go.Shelf

attribute [local go_sem] Oper.semAt_some

theorem bits8_mem (c : Int) : ∀ t ∈ bits8 c, 0 ≤ t ∧ t < 8 := by
  intro t ht
  unfold bits8 at ht
  obtain ⟨j, hj, rfl⟩ := List.mem_map.1 ht
  have := List.mem_range.1 (List.mem_filter.1 hj).1
  constructor
  · exact Int.natCast_nonneg j
  · show (j : Int) < 8
    omega
theorem bitsFrom_mem (l : List Int) : ∀ (k : Nat) t, t ∈ bitsFrom k l → 0 ≤ t ∧ t < 8 * ((k : Int) + l.length) := by
  induction l with
  | nil => intro k t h; simp [bitsFrom] at h
  | cons c cs ih =>
    intro k t h
    simp only [bitsFrom, List.mem_append, List.mem_map] at h
    rcases h with ⟨s, hs, rfl⟩ | h
    · have := bits8_mem c s hs
      simp only [List.length_cons]
      omega
    · have := ih (k + 1) t h
      simp only [List.length_cons]
      omega
theorem keepsFrom_drewN (B : Nat) (W : World) (n : Nat) : KeepsFrom B W (W.drewN n) := KeepsOthers.from (⟨Nat.le_refl _, fun _ _ h _ => h⟩ : KeepsOthers W (W.drewN n)) B
theorem info37 : (Try.prog.info? 37).map (fun i => (i.zero, i.size, i.bytes)) = some (some (.agg #[.int .i64 0, .int .i64 0]), 2, 16) := by kernel_rfl
theorem snocRec {α : Type} {p : List α → Prop} (h0 : p []) (h1 : ∀ l x, p l → p (l ++ [x])) (l : List α) : p l := by
  have h : ∀ n (l : List α), l.length = n → p l := by
    intro n
    induction n with
    | zero => intro l hl; rw [List.eq_nil_of_length_eq_zero hl]; exact h0
    | succ n ih =>
      intro l hl
      rcases List.eq_nil_or_concat l with rfl | ⟨ts, r, rfl⟩
      · exact h0
      · rw [List.concat_eq_append] at hl ⊢; exact h1 ts r (ih ts (by simp at hl; omega))
  exact h _ l rfl
def flat30 (rs : List S37) : List Value := rs.flatMap fun r => [.int .i64 r.f0, .int .i64 r.f1]
theorem flat30_snoc (ts : List S37) (r : S37) : flat30 (ts ++ [r]) = flat30 ts ++ [.int .i64 r.f0, .int .i64 r.f1] := by simp [flat30]
theorem flat30_len (ts : List S37) : (flat30 ts).length = ts.length * 2 := by
  induction ts with
  | nil => rfl
  | cons r rs ih => simp only [flat30, List.flatMap_cons, List.length_append, List.length_cons, List.length_nil] at ih ⊢; omega
theorem flat30_0 (ts : List S37) (r : S37) : (flat30 (ts ++ [r]))[ts.length * 2]? = some (.int .i64 r.f0) := by
  rw [flat30_snoc, List.getElem?_append_right (by rw [flat30_len]; omega), flat30_len]; simp
theorem flat30_1 (ts : List S37) (r : S37) : (flat30 (ts ++ [r]))[ts.length * 2 + 1]? = some (.int .i64 r.f1) := by
  rw [flat30_snoc, List.getElem?_append_right (by rw [flat30_len]; omega), flat30_len]; simp
theorem flat30_set (ts : List S37) (r : S37) (x : Int) : (flat30 (ts ++ [r])).set (ts.length * 2 + 1) (.int .i64 x) = flat30 (ts ++ [⟨r.f0, x⟩]) := by
  rw [flat30_snoc, flat30_snoc, List.set_append_right _ _ (by rw [flat30_len]; omega), flat30_len]; simp
theorem reps30 (rs : List S37) (w : World) (base : Nat) (ok : Nat → Prop) : Reps (k37.M w base ok) 2 rs (flat30 rs) := by
  refine snocRec (p := fun rs => Reps (k37.M w base ok) 2 rs (flat30 rs)) ?_ ?_ rs
  · exact Reps.none _ _
  · intro ts r ih
    rw [flat30_snoc]
    exact ih.snoc (k37_mkM w base ok r) rfl
theorem R_of_flat30 {w : World} {base : Nat} {v : Value} {rs : List S37} (ho : w.ownsRow base 37 2 v rs.length (flat30 rs)) : Kd.R k37 37 w base (fun _ => True) v rs :=
  ⟨fun _ _ => trivial, flat30 rs, ho, reps30 rs w base _⟩

theorem cell_two_new (W : World) (a b : Value) (t : TypeId) : ∀ (j : Nat) (u : Value), [a, b][j]? = some u → (W.alloc (.cells #[a, b] t)).cell? ((⟨W.heap.size, 0, none⟩ : Addr).add j) = some u := by
  intro j u hu
  rw [add_plain]
  unfold World.cell?
  rw [World.alloc_heap_new]
  match j, hu with
  | 0, hu => simpa using hu
  | 1, hu => simpa using hu
  | j + 2, hu => simp at hu
theorem wrap_i64' (n : Int) : wrap64 n = IntKind.i64.wrap n := by rw [IntKind.wrap_i64, wrap64]
/-- The rows of numbers that come one by one. -/
def addRun (rs : List S37) (i : Int) : List S37 := match rs.getLast? with
  | none => [⟨i, 1⟩]
  | some r => if wrap64 (r.f0 + r.f1) = i then rs.dropLast ++ [⟨r.f0, wrap64 (r.f1 + 1)⟩] else rs ++ [⟨i, 1⟩]
def runs (pre : List Int) : List S37 := pre.foldl addRun []
theorem runs_snoc (pre : List Int) (x : Int) : runs (pre ++ [x]) = addRun (runs pre) x := by simp [runs]
theorem addRun_nil (x : Int) : addRun [] x = [⟨x, 1⟩] := rfl
theorem addRun_hit (ts : List S37) (r : S37) (x : Int) (h : wrap64 (r.f0 + r.f1) = x) : addRun (ts ++ [r]) x = ts ++ [⟨r.f0, wrap64 (r.f1 + 1)⟩] := by simp [addRun, h]
theorem addRun_miss (ts : List S37) (r : S37) (x : Int) (h : ¬ wrap64 (r.f0 + r.f1) = x) : addRun (ts ++ [r]) x = ts ++ [r] ++ [⟨x, 1⟩] := by simp [addRun, h]
theorem addRun_len (rs : List S37) (x : Int) : (addRun rs x).length ≤ rs.length + 1 := by
  rcases List.eq_nil_or_concat rs with rfl | ⟨ts, r, rfl⟩
  · simp [addRun]
  · by_cases h : wrap64 (r.f0 + r.f1) = x
    · rw [List.concat_eq_append, addRun_hit _ _ _ h]; simp
    · rw [List.concat_eq_append, addRun_miss _ _ _ h]; simp
theorem runs_len (pre : List Int) : (runs pre).length ≤ pre.length := by
  refine snocRec (p := fun pre => (runs pre).length ≤ pre.length) ?_ ?_ pre
  · simp [runs]
  · intro ts r ih
    rw [runs_snoc]; have := addRun_len (runs ts) r; simp; omega


set_option maxRecDepth 100000 in
set_option maxHeartbeats 2000000 in
theorem runs_in (w : World) (A : Option Addr) (c : Nat) (zs : List Int) (hC : Kd.C (Kd.int .u8) w A zs.length zs) (hf : Fine zs) :
    CallsIn Fence.wide 5 Try.prog 14 #[.slice A zs.length c] w fun e W' => ∃ v, e = .returned v ∧ W'.ownsRow w.heap.size 37 2 v (runs (bitsOf zs)).length (flat30 (runs (bitsOf zs))) ∧ Below w.heap.size w W' := by
  have h1 : 1 ≤ 5 := by omega
  have hlen := bitsOf_len zs
  have hlen2 := hf.2
  obtain ⟨i0, hi, hz0, hz1, hz2⟩ := info_parts info37
  refine callsIn_of_wp_marks Try.func14 rfl trivial ?_ rfl
  simp only [Try.ntmps14, List.size_toArray, List.length_cons, List.length_nil, Nat.reduceAdd, Nat.reduceSub, Array.replicate_succ, Array.replicate_zero, List.push_toArray, List.append_toArray, List.nil_append, List.cons_append]
  gi_wp2_with (refine ⟨trivial, ?_⟩; gi_at_call 31; refine (set_in Fence.wide 4 trivial rfl _ _ _ _).mono ?_; rintro e w' ⟨rfl, rfl⟩)
  have bO := Boxed.new w 35 (.slice none 0 0)
  have bN := Boxed.new (w.alloc (.cells #[.slice none 0 0] 35)) 34 (.slice A zs.length c)
  rw [World.size_alloc] at bN
  have hcN := bN.cell
  have hB0 : Below w.heap.size w ((w.alloc (.cells #[.slice none 0 0] 35)).alloc (.cells #[.slice A zs.length c] 34)) := ((Below.refl _ w).alloc (Nat.le_refl _) _).alloc (by simp) _
  refine wpIn_rangeFunc_ownG rfl h1 (gf := 44) (lb := #[.pointer (some ⟨w.heap.size + 1, 0, none⟩)]) rfl trivial (enters_of Try.func44 (by kernel_rfl) rfl)
    (set_stops Fence.wide 4 trivial trivial rfl (by omega) (w.heap.size + 1) w.heap.size w (by omega) A c zs hC hf _ hB0 (by have := hB0.size; omega) (by simp) hcN) belowK_t (belowK_b (by have := hB0.size; omega)) (Below.refl _ _) (fun _ => rfl)
    (fun (pre : List Int) W => (∃ v, Boxed W w.heap.size 35 v ∧ W.ownsRow w.heap.size 37 2 v (runs pre).length (flat30 (runs pre)) ∧ True) ∧ Below w.heap.size w W)
    (fun _ (_ : List Int) _ => False)
    (OwnFrom.and (Own.from (holdsRow_own w.heap.size w.heap.size 35 37 2 (fun (pre : List Int) => (runs pre).length) (fun (pre : List Int) => flat30 (runs pre)) (fun (_ : List Int) _ => True)) _) (ownFrom_below (Nat.le_refl _) (by have := hB0.size; omega)))
    (fun _ _ _ _ _ hs _ _ => hs)
    ⟨⟨_, bO.alloc _, World.ownsRow_nil _ _ _ _, trivial⟩, hB0⟩
    (fun x => { tmps := #[.slice A zs.length c, undef, .slice none 0 0, .pointer (some ⟨w.heap.size, 0, none⟩), .int .i64 x, undef, .slice A zs.length c, .func (.func 44) #[] #[.pointer (some ⟨w.heap.size + 1, 0, none⟩)], .int .i64 x, undef, undef, undef, undef, undef, undef, undef, undef, undef, undef, undef, undef, undef, undef, undef, undef, undef, undef, undef, undef, undef, undef, undef, undef, undef, undef, undef, undef, undef, undef, undef, undef, undef, undef, undef, undef], defers := [] }) ?assign ?body ?done ?stop
  case assign =>
    intro l x W K hK
    gi_wp2
    exact hK
  case body =>
    rintro l pre x W ⟨⟨v, hv, hrow, -⟩, hB⟩ hlt
    have hpl := runs_len pre
    have hrs := runs_snoc pre x
    generalize hrp : runs pre = rs at *
    clear hrp
    have hc := hv.cell
    have hBsz := hB.size
    rcases List.eq_nil_or_concat rs with rfl | ⟨ts, r, rfl⟩
    · obtain ⟨Av, cv, rfl⟩ := own_slice hrow
      rw [addRun_nil] at hrs
      have Hrs := Lib.hid hrs
      clear hrs
      rw [List.length_nil] at *
      gi_wp2
      refine Rnd.region_quiet rfl (by kernel_rfl) (by kernel_rfl) (by kernel_rfl) ?_
      repeat (gi_big_quiet_step (fail))
      refine wpQuietIn_nil ?_
      intro W2 hw'
      have hv2 : Boxed W2 w.heap.size 35 (.slice Av 0 cv) := by obtain ⟨nq, rfl⟩ := hw'; exact hv
      have hrow2 : W2.ownsRow w.heap.size 37 2 (.slice Av 0 cv) 0 (flat30 []) := by obtain ⟨nq, rfl⟩ := hw'; exact hrow
      have hB2 : Below w.heap.size w W2 := by obtain ⟨nq, rfl⟩ := hw'; exact pw_below_drewN hB nq
      have hK2 : ∀ B, KeepsFrom B W W2 := by obtain ⟨nq, rfl⟩ := hw'; exact fun B => keepsFrom_drewN B W nq
      have hBW2 : Below w.heap.size W W2 := by obtain ⟨nq, rfl⟩ := hw'; exact pw_below_drewN (Below.refl _ W) nq
      have hc2 := hv2.cell
      have hB2s := hB2.size
      clear hw' hv hrow hc hB
      gi_wp2_with (gi_at_builtin; refine wpListIn_append_own _ rfl _ _ 35 rfl w.heap.size 37 i0 (.agg #[.int .i64 0, .int .i64 0]) 2 16 Try.underlying35 hi hz0 hz1 hz2 rfl (by decide) _ _ _ rfl (hrow2.alloc _) ⟨W2.heap.size, 0, none⟩ 1 1 [.int .i64 x, .int .i64 1] rfl rfl (cell_two_new _ _ _ _) (by simp [Value.oneCell']) (by unfold maxLen; omega) (by omega) (by simp; omega) ?_; intro v' w1 hown' hgrow _; obtain ⟨g', cap', rfl⟩ := ownsRow_succ hown'; obtain ⟨hv1, hv2', hr2, hk2, hb2⟩ := hv2.appended (by decide) hrow2 hB2s (Nat.le_refl _) hown' hgrow; have hc1 := hv1.cell; have hf1 := hv1.frozen)
      exact ⟨(hK2 _).trans (hk2.from _), hBW2.trans hb2, ⟨_, hv2', by rw [Hrs.out]; simpa [flat30] using hr2, trivial⟩, hB2.trans hb2⟩
    · rw [List.concat_eq_append] at *
      obtain ⟨g, cv, rfl⟩ : ∃ g cv, v = .slice (some ⟨g, 0, none⟩) (ts ++ [r]).length cv := by
        obtain ⟨g, cv, he, _, _⟩ := hrow.form (by simp)
        exact ⟨g, cv, he⟩
      have c0 := hrow.cellAt (ts.length * 2) (by simp)
      have c1 := hrow.cellAt (ts.length * 2 + 1) (by simp; omega)
      rw [flat30_0] at c0
      rw [flat30_1] at c1
      simp only [List.length_append, List.length_cons, List.length_nil, Nat.zero_add] at *
      by_cases hx : wrap64 (r.f0 + r.f1) = x
      · rw [addRun_hit ts r x hx] at hrs
        have Hrs := Lib.hid hrs
        have hxb : (wrap64 (r.f0 + r.f1) == x) = true := beq_iff_eq.2 hx
        clear hrs hx
        gi_wp2
        refine Rnd.region_quiet rfl (by kernel_rfl) (by kernel_rfl) (by kernel_rfl) ?_
        repeat (gi_big_quiet_step (fail))
        refine wpQuietIn_nil ?_
        intro W2 hw'
        have hv2 : Boxed W2 w.heap.size 35 (.slice (some ⟨g, 0, none⟩) (ts.length + 1) cv) := by obtain ⟨nq, rfl⟩ := hw'; exact hv
        have hrow2 : W2.ownsRow w.heap.size 37 2 (.slice (some ⟨g, 0, none⟩) (ts.length + 1) cv) (ts.length + 1) (flat30 (ts ++ [r])) := by obtain ⟨nq, rfl⟩ := hw'; exact hrow
        have hB2 : Below w.heap.size w W2 := by obtain ⟨nq, rfl⟩ := hw'; exact pw_below_drewN hB nq
        have hK2 : ∀ B, KeepsFrom B W W2 := by obtain ⟨nq, rfl⟩ := hw'; exact fun B => keepsFrom_drewN B W nq
        have hBW2 : Below w.heap.size W W2 := by obtain ⟨nq, rfl⟩ := hw'; exact pw_below_drewN (Below.refl _ W) nq
        have hc2 := hv2.cell
        have hB2s := hB2.size
        have c02 : W2.cell? ⟨g, ts.length * 2, none⟩ = some (.int .i64 r.f0) := by obtain ⟨nq, rfl⟩ := hw'; exact c0
        have c12 : W2.cell? ⟨g, ts.length * 2 + 1, none⟩ = some (.int .i64 r.f1) := by obtain ⟨nq, rfl⟩ := hw'; exact c1
        have f12 := hrow2.frozenAt (ts.length * 2 + 1)
        clear hw' hv hrow hc hB c0 c1
        gi_wp2
        have hwr : IntKind.i64.wrap (ts.length : Int) = (ts.length : Int) := IntWalk.i64_in _ (by omega)
        have hlt1 : ((ts.length : Int) < (ts.length : Int) + 1) = True := eq_true (by omega)
        obtain ⟨hst, hgr⟩ := World.ownsRow.stored hrow2 (ts.length * 2 + 1) (.int .i64 (IntKind.i64.wrap (r.f1 + 1)))
        rw [flat30_set, ← wrap_i64'] at hst
        have hgb : w.heap.size ≤ g := own_base hrow2 g (by simp [Value.ownBlock])
        have hv3 : Boxed (W2.setCell ⟨g, ts.length * 2 + 1, none⟩ (.int .i64 (IntKind.i64.wrap (r.f1 + 1)))).drew w.heap.size 35 (.slice (some ⟨g, 0, none⟩) (ts.length + 1) cv) := (Boxed.kept hv2 hgr (by have := hv2.not_row (by decide) hrow2; simpa [Value.ownBlock] using this) : Boxed (W2.setCell ⟨g, ts.length * 2 + 1, none⟩ (.int .i64 (IntKind.i64.wrap (r.f1 + 1)))) w.heap.size 35 (.slice (some ⟨g, 0, none⟩) (ts.length + 1) cv))
        have hst3 : (W2.setCell ⟨g, ts.length * 2 + 1, none⟩ (.int .i64 (IntKind.i64.wrap (r.f1 + 1)))).drew.ownsRow w.heap.size 37 2 (.slice (some ⟨g, 0, none⟩) (ts.length + 1) cv) (ts.length + 1) (flat30 (ts ++ [⟨r.f0, wrap64 (r.f1 + 1)⟩])) := by rw [← wrap_i64']; exact hst
        have hK3 : ∀ B, KeepsFrom B W (W2.setCell ⟨g, ts.length * 2 + 1, none⟩ (.int .i64 (IntKind.i64.wrap (r.f1 + 1)))).drew := fun B => (hK2 B).trans (((KeepsOthers.setCell _ _ _).trans (KeepsOthers.drew _)).from B)
        have hBW3 : Below w.heap.size W (W2.setCell ⟨g, ts.length * 2 + 1, none⟩ (.int .i64 (IntKind.i64.wrap (r.f1 + 1)))).drew := below_drew (hBW2.setCell (p := ⟨g, ts.length * 2 + 1, none⟩) hgb _)
        have hB3 : Below w.heap.size w (W2.setCell ⟨g, ts.length * 2 + 1, none⟩ (.int .i64 (IntKind.i64.wrap (r.f1 + 1)))).drew := below_drew (hB2.setCell (p := ⟨g, ts.length * 2 + 1, none⟩) hgb _)
        clear hst
        replace hst3 := Lib.hid hst3
        replace hv3 := Lib.hid hv3
        replace hgr := Lib.hid hgr
        refine Rnd.region_any rfl (by kernel_rfl) (by kernel_rfl) ?_
        change wpAnyIn _ _ _ _ _ _ _ _ _ (World.drew _)
        (refine wpAnyIn_take (i := 1) (v := ?_) rfl rfl (by kernel_rfl) (by kernel_rfl) (by kernel_rfl) (fun _ _ _ h => h) ⟨Or.inl ⟨by rfl, ?_⟩, fun _ => rfl⟩ ?_; rotate_left; focus ((intro w; go_simp); first | done | with_reducible rfl))
        (refine wpAnyIn_take (i := 2) (v := ?_) rfl rfl (by kernel_rfl) (by kernel_rfl) (by kernel_rfl) (fun _ _ _ h => h) ⟨Or.inl ⟨by rfl, ?_⟩, fun _ => rfl⟩ ?_; rotate_left; focus ((intro w; go_simp); first | done | with_reducible rfl))
        (refine wpAnyIn_ready (rs := [0]) (by kernel_rfl) (by simp) ?_; refine AllReadyIn.cons rfl (fun K hK => ?_) AllReadyIn.nil)
        (go_simp; refine hK _ _ ?_; clear hK K)
        (refine wpAnyIn_ready (rs := [3, 7]) (by kernel_rfl) (by simp) ?_; refine AllReadyIn.cons rfl (fun K hK => ?_) (AllReadyIn.cons rfl (fun K hK => ?_) AllReadyIn.nil))
        · (go_simp; refine hK _ _ ?_; clear hK K)
          (refine wpAnyIn_take (i := 4) (v := ?_) rfl rfl (by kernel_rfl) (by kernel_rfl) (by kernel_rfl) (fun _ _ _ h => h) ⟨Or.inl ⟨by rfl, ?_⟩, fun _ => rfl⟩ ?_; rotate_left; focus ((intro w; go_simp); first | done | with_reducible rfl))
          (refine wpAnyIn_ready (rs := [5, 7]) (by kernel_rfl) (by simp) ?_; refine AllReadyIn.cons rfl (fun K hK => ?_) (AllReadyIn.cons rfl (fun K hK => ?_) AllReadyIn.nil))
          · (go_simp; refine hK _ _ ?_; clear hK K)
            (refine wpAnyIn_take (i := 6) (v := ?_) rfl rfl (by kernel_rfl) (by kernel_rfl) (by kernel_rfl) (fun _ _ _ h => h) ⟨Or.inl ⟨by rfl, ?_⟩, fun _ => rfl⟩ ?_; rotate_left; focus ((intro w; go_simp); first | done | with_reducible rfl))
            (refine wpAnyIn_take (i := 7) (v := ?_) rfl rfl (by kernel_rfl) (by kernel_rfl) (by kernel_rfl) (fun _ _ _ h => h) ⟨Or.inl ⟨by rfl, ?_⟩, fun _ => rfl⟩ ?_; rotate_left; focus ((intro w; go_simp); first | done | with_reducible rfl))
            (refine wpAnyIn_take (i := 8) (v := ?_) rfl rfl (by kernel_rfl) (by kernel_rfl) (by kernel_rfl) (fun _ _ _ h => h) ⟨Or.inl ⟨by rfl, ?_⟩, fun _ => rfl⟩ ?_; rotate_left; focus ((intro w; go_simp); first | done | with_reducible rfl))
            (refine wpAnyIn_ready (rs := [9]) (by kernel_rfl) (by simp) ?_; refine AllReadyIn.cons rfl (fun K hK => ?_) AllReadyIn.nil)
            (go_simp; refine hK _ _ ?_; clear hK K)
            refine wpAnyIn_done (by kernel_rfl) ?_ _
            exact ⟨hK3 _, hBW3, ⟨_, hv3.out, by rw [Hrs.out]; simpa using hst3.out, trivial⟩, hB3⟩
          · (go_simp; refine hK _ _ ?_; clear hK K)
            (refine wpAnyIn_ready (rs := [5]) (by kernel_rfl) (by simp) ?_; refine AllReadyIn.cons rfl (fun K hK => ?_) AllReadyIn.nil)
            (go_simp; refine hK _ _ ?_; clear hK K)
            (refine wpAnyIn_take (i := 6) (v := ?_) rfl rfl (by kernel_rfl) (by kernel_rfl) (by kernel_rfl) (fun _ _ _ h => h) ⟨Or.inl ⟨by rfl, ?_⟩, fun _ => rfl⟩ ?_; rotate_left; focus ((intro w; go_simp); first | done | with_reducible rfl))
            (refine wpAnyIn_take (i := 8) (v := ?_) rfl rfl (by kernel_rfl) (by kernel_rfl) (by kernel_rfl) (fun _ _ _ h => h) ⟨Or.inl ⟨by rfl, ?_⟩, fun _ => rfl⟩ ?_; rotate_left; focus ((intro w; go_simp); first | done | with_reducible rfl))
            (refine wpAnyIn_ready (rs := [9]) (by kernel_rfl) (by simp) ?_; refine AllReadyIn.cons rfl (fun K hK => ?_) AllReadyIn.nil)
            (go_simp; refine hK _ _ ?_; clear hK K)
            refine wpAnyIn_done (by kernel_rfl) ?_ _
            exact ⟨hK3 _, hBW3, ⟨_, hv3.out, by rw [Hrs.out]; simpa using hst3.out, trivial⟩, hB3⟩
        · (go_simp; refine hK _ _ ?_; clear hK K)
          (refine wpAnyIn_take (i := 3) (v := ?_) rfl rfl (by kernel_rfl) (by kernel_rfl) (by kernel_rfl) (fun _ _ _ h => h) ⟨Or.inl ⟨by rfl, ?_⟩, fun _ => rfl⟩ ?_; rotate_left; focus ((intro w; go_simp); first | done | with_reducible rfl))
          (refine wpAnyIn_take (i := 4) (v := ?_) rfl rfl (by kernel_rfl) (by kernel_rfl) (by kernel_rfl) (fun _ _ _ h => h) ⟨Or.inl ⟨by rfl, ?_⟩, fun _ => rfl⟩ ?_; rotate_left; focus ((intro w; go_simp); first | done | with_reducible rfl))
          (refine wpAnyIn_ready (rs := [5]) (by kernel_rfl) (by simp) ?_; refine AllReadyIn.cons rfl (fun K hK => ?_) AllReadyIn.nil)
          (go_simp; refine hK _ _ ?_; clear hK K)
          (refine wpAnyIn_take (i := 6) (v := ?_) rfl rfl (by kernel_rfl) (by kernel_rfl) (by kernel_rfl) (fun _ _ _ h => h) ⟨Or.inl ⟨by rfl, ?_⟩, fun _ => rfl⟩ ?_; rotate_left; focus ((intro w; go_simp); first | done | with_reducible rfl))
          (refine wpAnyIn_take (i := 8) (v := ?_) rfl rfl (by kernel_rfl) (by kernel_rfl) (by kernel_rfl) (fun _ _ _ h => h) ⟨Or.inl ⟨by rfl, ?_⟩, fun _ => rfl⟩ ?_; rotate_left; focus ((intro w; go_simp); first | done | with_reducible rfl))
          (refine wpAnyIn_ready (rs := [9]) (by kernel_rfl) (by simp) ?_; refine AllReadyIn.cons rfl (fun K hK => ?_) AllReadyIn.nil)
          (go_simp; refine hK _ _ ?_; clear hK K)
          refine wpAnyIn_done (by kernel_rfl) ?_ _
          exact ⟨hK3 _, hBW3, ⟨_, hv3.out, by rw [Hrs.out]; simpa using hst3.out, trivial⟩, hB3⟩
      · rw [addRun_miss ts r x hx] at hrs
        have Hrs := Lib.hid hrs
        have hxb : (wrap64 (r.f0 + r.f1) == x) = false := beq_eq_false_iff_ne.2 hx
        clear hrs hx
        gi_wp2
        refine Rnd.region_quiet rfl (by kernel_rfl) (by kernel_rfl) (by kernel_rfl) ?_
        repeat (gi_big_quiet_step (fail))
        refine wpQuietIn_nil ?_
        intro W2 hw'
        have hv2 : Boxed W2 w.heap.size 35 (.slice (some ⟨g, 0, none⟩) (ts.length + 1) cv) := by obtain ⟨nq, rfl⟩ := hw'; exact hv
        have hrow2 : W2.ownsRow w.heap.size 37 2 (.slice (some ⟨g, 0, none⟩) (ts.length + 1) cv) (ts.length + 1) (flat30 (ts ++ [r])) := by obtain ⟨nq, rfl⟩ := hw'; exact hrow
        have hB2 : Below w.heap.size w W2 := by obtain ⟨nq, rfl⟩ := hw'; exact pw_below_drewN hB nq
        have hK2 : ∀ B, KeepsFrom B W W2 := by obtain ⟨nq, rfl⟩ := hw'; exact fun B => keepsFrom_drewN B W nq
        have hBW2 : Below w.heap.size W W2 := by obtain ⟨nq, rfl⟩ := hw'; exact pw_below_drewN (Below.refl _ W) nq
        have hc2 := hv2.cell
        have hB2s := hB2.size
        have c02 : W2.cell? ⟨g, ts.length * 2, none⟩ = some (.int .i64 r.f0) := by obtain ⟨nq, rfl⟩ := hw'; exact c0
        have c12 : W2.cell? ⟨g, ts.length * 2 + 1, none⟩ = some (.int .i64 r.f1) := by obtain ⟨nq, rfl⟩ := hw'; exact c1
        have f12 := hrow2.frozenAt (ts.length * 2 + 1)
        clear hw' hv hrow hc hB c0 c1
        gi_wp2_with (gi_at_builtin; refine wpListIn_append_own _ rfl _ _ 35 rfl w.heap.size 37 i0 (.agg #[.int .i64 0, .int .i64 0]) 2 16 Try.underlying35 hi hz0 hz1 hz2 rfl (by decide) _ _ _ rfl (hrow2.alloc _) ⟨W2.heap.size, 0, none⟩ 1 1 [.int .i64 x, .int .i64 1] rfl rfl (cell_two_new _ _ _ _) (by simp [Value.oneCell']) (by unfold maxLen; omega) (by omega) (by simp; omega) ?_; intro v' w1 hown' hgrow _; obtain ⟨g', cap', rfl⟩ := ownsRow_succ hown'; obtain ⟨hv1, hv2', hr2, hk2, hb2⟩ := hv2.appended (by decide) hrow2 hB2s (Nat.le_refl _) hown' hgrow; have hc1 := hv1.cell; have hf1 := hv1.frozen)
        exact ⟨(hK2 _).trans (hk2.from _), hBW2.trans hb2, ⟨_, hv2', by rw [Hrs.out, flat30_snoc, show (ts ++ [r] ++ [(⟨x, 1⟩ : S37)]).length = ts.length + 1 + 1 by simp]; exact hr2, trivial⟩, hB2.trans hb2⟩
  case done =>
    rintro D ys W hD rfl ⟨⟨v, hv, hrow, -⟩, hB⟩ hK
    have hc := hv.cell
    gi_wp2
    refine ⟨by simp, .inl ⟨_, _, rfl, run_takeDeferred hK, ?_⟩⟩
    exact ⟨_, results_tmp rfl _ _ _, v, rfl, ownsRow_putObj hrow _ hK rfl, hB.trans (belowK_b (w := w) (Nat.le_refl _) W D _ _ (by simp at hD; omega) hK rfl rfl)⟩
  case stop =>
    rintro D c pre W _ _ h _
    exact h.elim

def bitset_Runs.f (l0 : List Int) : Option (List (S37)) := if Fine l0 then some (runs (bitsOf l0)) else none
theorem bitset_Runs.calls (A0 : Option Addr) (c0 : Nat) (l0 : List Int) (r : List (S37)) (w : World) (hr0 : Kd.C (Kd.int .u8) w A0 l0.length l0) (hc0 : l0.length ≤ c0) (h : bitset_Runs.f l0 = some r) :
    Calls Try.prog 14 #[.slice A0 l0.length c0] w fun e w' => ∃ v0_ : Value, e = .returned (v0_) ∧ Kd.R k37 37 w' w.heap.size (fun _ => True) v0_ r ∧ Below w.heap.size w w' := by
  unfold bitset_Runs.f at h
  by_cases hf : Fine l0
  · rw [if_pos hf] at h
    obtain rfl := Option.some.inj h
    refine ((callsIn_wide (n := 5)).1 (runs_in w A0 c0 l0 hr0 hf)).mono ?_
    rintro e w' ⟨v, rfl, hr, hb⟩
    exact ⟨v, rfl, R_of_flat30 hr, hb⟩
  · rw [if_neg hf] at h
    exact absurd h (by simp)
end Go.Proofs.Ythembklejaabiaa.PG
