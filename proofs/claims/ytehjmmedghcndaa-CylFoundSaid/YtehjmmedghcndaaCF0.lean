import Derived.Test.YtehjmmedghcndaaCT
/-! A range over an iterator that ranges over an iterator itself. -/
namespace Go.Proofs.Ytehjmmedghcndaa.PG
open Go.RowKit Go.Proofs.YtehjmmedghcndaaW.PrintWords Go.Proofs.YtehjmmedghcndaaW.PrintLast Go.Proofs.YtehjmmedghcndaaW.PrintMore
open Go.Shelf
attribute [local go_sem] Oper.semAt_some
/-- All blocks but one are as they were. -/
structure KeepsBut (l : Nat) (W W' : World) : Prop where
 size : W.heap.size ≤ W'.heap.size
 same : ∀ (k : Nat) (o : Obj), k ≠ l → W.heap[k]? = some o → W'.heap[k]? = some o
theorem KeepsBut.trans {l : Nat} {A B C : World} (h : KeepsBut l A B) (k : KeepsBut l B C) : KeepsBut l A C := ⟨Nat.le_trans h.size k.size, fun i o hi ho => k.same i o hi (h.same i o hi ho)⟩
theorem KeepsBut.put (l : Nat) (W : World) (o : Obj) : KeepsBut l W (W.putObj l o) := ⟨by simp, fun k o' hk ho => (World.putObj_heap_other hk).trans ho⟩
theorem KeepsBut.below {l : Nat} {W W' : World} (h : Below W.heap.size W W') : KeepsBut l W W' := ⟨h.size, fun k _ _ hk => (h.block k (Array.getElem?_eq_some_iff.1 hk).1).trans hk⟩
theorem KeepsBut.drew (l : Nat) (W : World) : KeepsBut l W W.drew := ⟨Nat.le_refl _, fun _ _ _ h => h⟩
theorem KeepsBut.from {l B : Nat} {W W' : World} (h : KeepsBut l W W') (hl : l < B) : KeepsFrom B W W' := ⟨h.size, fun k o hk ho _ => h.same k o (by omega) ho⟩
theorem keeps_more {B B' : Nat} {W W' : World} (h : KeepsFrom B W W') (hb : B ≤ B') : KeepsFrom B' W W' := ⟨h.size, fun k o hk ho hc => h.same k o (Nat.le_trans hb hk) ho hc⟩
theorem keeps_put {l B : Nat} (hl : l < B) (W : World) (o : Obj) : KeepsFrom B W (W.putObj l o) := (KeepsBut.put l W o).from hl
/-- What is said of blocks that lie ahead of where such loops lay theirs. -/
theorem own_blk {β : Type} {B k : Nat} {o : Obj} (hk : k < B) : OwnFrom B (fun (_ : β) W => W.heap[k]? = some o) := fun _ _ _ _ hs hg hr =>
 (hg.block k (Array.getElem?_eq_some_iff.1 hs).1 (fun e => by have := (hr k e.symm).1; omega)).trans hs
theorem own_less {β : Type} {B B' : Nat} {I : β → World → Prop} (h : OwnFrom B I) (hb : B ≤ B') : OwnFrom B' I := fun s W W' row hs hg hr => h s W W' row hs hg (fun r e => ⟨Nat.le_trans hb (hr r e).1, (hr r e).2⟩)
theorem own_drew {β : Type} {B : Nat} {I : β → World → Prop} (h : OwnFrom B I) {s : β} {W : World} (hs : I s W) : I s W.drew := h s W W.drew none hs ⟨rfl, rfl, rfl, Nat.le_refl _, fun _ _ _ => rfl⟩ (fun r e => by cases e)
/-- Two blocks are as they were. -/
def KeepsTwo (p q : Nat) (X Y : World) : Prop := ∀ (k : Nat) (o : Obj), (k = p ∨ k = q) → X.heap[k]? = some o → Y.heap[k]? = some o
theorem KeepsTwo.trans {p q : Nat} {A B C : World} (h : KeepsTwo p q A B) (k : KeepsTwo p q B C) : KeepsTwo p q A C := fun i o hi ho => k i o hi (h i o hi ho)
theorem KeepsBut.two {l p q : Nat} {X Y : World} (h : KeepsBut l X Y) (hp : p ≠ l) (hq : q ≠ l) : KeepsTwo p q X Y := fun k o hk ho => h.same k o (by rcases hk with rfl | rfl <;> assumption) ho
theorem own_but {β : Type} {l B : Nat} {w0 : World} (hB : w0.heap.size ≤ B) : OwnFrom B (fun (_ : β) W => KeepsBut l w0 W) := fun _ X Y row hs hg hr => ⟨Nat.le_trans hs.size hg.size, fun k o hk ho => (hg.block k (Array.getElem?_eq_some_iff.1 (hs.same k o hk ho)).1 (fun e => by have := (hr k e.symm).1; have := (Array.getElem?_eq_some_iff.1 ho).1; omega)).trans (hs.same k o hk ho)⟩
set_option maxRecDepth 100000 in
set_option maxHeartbeats 2000000 in
theorem round1K_in (F : Fence) (n : Nat) (h73 : F.fn 73) (hro : F.round = none) (hn : 1 ≤ n) (l Bn Bf : Nat) (fr m : Nat) (hfr : fr ≤ 100000) (hm : m ≤ 100000) (J Jx : List (Rng m) → World → Prop)
  (hY : ∀ pre (x : Rng m) W, J pre W → pre.length < m → YieldAt F (n - 1) Try.prog l #[.int .i64 x.1] W fun e W' =>
   (e = .returned (.bool true) ∧ J (pre ++ [x]) W' ∧ KeepsTwo Bn Bf W W') ∨ (e = .returned (.bool false) ∧ Jx (pre ++ [x]) W'))
  (W : World) (hBn : W.heap[Bn]? = some (.cells #[.int .i64 (m : Int)] 3 (0, 0))) (hBf : W.heap[Bf]? = some (.cells #[.int .i64 (fr : Int)] 3 (0, 0))) (h0 : J [] W) :
  CallsIn F n Try.prog 73 #[.func (.yield l) #[] #[], .pointer (some ⟨Bn, 0, none⟩), .pointer (some ⟨Bf, 0, none⟩)] W fun e W' => (∃ v, e = .returned v) ∧
   ((∃ ys : List (Rng m), ys.map (·.1) = roundL fr m ∧ J ys W') ∨ (∃ pre : List (Rng m), pre.map (·.1) <+: roundL fr m ∧ Jx pre W')) := by
 have HBn := Aside0.mk hBn
 have HBf := Aside0.mk hBf
 have cn0 : W.cell? ⟨Bn, 0, none⟩ = some (.int .i64 (m : Int)) := (blk_cell hBn 0).trans rfl
 have cf0 : W.cell? ⟨Bf, 0, none⟩ = some (.int .i64 (fr : Int)) := (blk_cell hBf 0).trans rfl
 clear hBn hBf
 refine callsIn_of_wp Try.func73 rfl h73 ?_ hro
 simp only [Try.ntmps73, List.size_toArray, List.length_cons, List.length_nil, Nat.reduceAdd, Nat.reduceSub, Array.replicate_succ, Array.replicate_zero, List.push_toArray, List.append_toArray, List.nil_append, List.cons_append]
 gi_wp2
 gi_loopw [4, 6] (fun _ i wr => ∃ k : Nat, k ≤ m ∧ i = .int .i64 k ∧ ∃ ys : List (Rng m), Aside0 (ys.map (·.1) = (roundL fr m).take k) ∧ J ys wr ∧ KeepsTwo Bn Bf W wr)
  (fun _ i _ => m - (intOf i).toNat)
 case atStart => exact ⟨0, Nat.zero_le _, rfl, [], ⟨rfl⟩, h0, fun _ _ _ h => h⟩
 case round =>
  obtain ⟨k, hk, rfl, ys, hys, hJs, hB⟩ := hrel
  by_cases hlt : k < m
  ·have cn : wr.cell? ⟨Bn, 0, none⟩ = some (.int .i64 (m : Int)) := (blk_cell (hB _ _ (.inl rfl) HBn.out) 0).trans rfl
   have cf : wr.cell? ⟨Bf, 0, none⟩ = some (.int .i64 (fr : Int)) := (blk_cell (hB _ _ (.inr rfl) HBf.out) 0).trans rfl
   have hlen : ys.length = k := by have := congrArg List.length hys.out; rw [List.length_map, List.length_take, roundL_len] at this; omega
   have hxr : 0 ≤ (((fr + k) % m : Nat) : Int) ∧ (((fr + k) % m : Nat) : Int) < (m : Int) := ⟨by omega, by have := Nat.mod_lt (fr + k) (show 0 < m by omega); omega⟩
   have hts := roundL_take fr m k hlt
   have em : Int.tmod ((fr : Int) + (k : Int)) (m : Int) = (((fr + k) % m : Nat) : Int) := by
    rw [show ((fr : Int) + (k : Int)) = ((fr + k : Nat) : Int) by omega]
    exact Int.ofNat_tmod _ _
   have e2 : ((fr : Int) + (k : Int)) % (m : Int) = (((fr + k) % m : Nat) : Int) := by
    rw [show (fr : Int) + (k : Int) = ((fr + k : Nat) : Int) by omega]; rfl
   generalize (((fr + k) % m : Nat) : Int) = x at hxr hts em e2
   obtain ⟨xr, hxs⟩ : ∃ s : Rng m, s.1 = x := ⟨⟨x, hxr⟩, rfl⟩
   obtain ⟨fn, tmps, assign, body, hy, hR⟩ := hY ys xr wr hJs (by omega)
   have Hts := Lib.hid hts
   have HX := Lib.hid hxs
   rw [hxs] at hy
   have hpos : 1 ≤ m := by omega
   have hne : ((m : Int) == 0) = false := by rw [beq_eq_false_iff_ne]; omega
   clear hxr hts hxs
   gi_wp2
   refine hR.mono ?_
   rintro e W3 (⟨rfl, hJ3, hk3⟩ | ⟨rfl, hJx3⟩)
   ·gi_wp2
    go_roundw
    case rel => exact ⟨k + 1, by omega, by go_num, ys ++ [xr], ⟨by rw [List.map_append, hys.out, Hts.out, List.map_cons, HX.out]; rfl⟩, hJ3, KeepsTwo.trans hB hk3⟩
    case measure => simp [intOf]; omega
   ·gi_wp2
    refine bodyPost_ret (results_none rfl _ _ _) rfl ?_
    exact ⟨⟨_, rfl⟩, .inr ⟨_, by rw [List.map_append, hys.out, List.map_cons, HX.out]; exact (show (roundL fr m).take k ++ [x] <+: roundL fr m from by rw [← Hts.out]; exact List.take_prefix _ _), hJx3⟩⟩
  ·obtain rfl : k = m := by omega
   gi_wp2
   go_end0
   exact ⟨⟨_, rfl⟩, .inl ⟨ys, by rw [hys.out, List.take_of_length_le (by rw [roundL_len]; omega)], hJs⟩⟩
theorem roundK_stops (F : Fence) (n : Nat) (h73 : F.fn 73) (hro : F.round = none) (hn : 1 ≤ n) (Bn Bf : Nat) (fr m : Nat) (hfr : fr ≤ 100000) (hm : m ≤ 100000) (w : World) (hBn : w.heap[Bn]? = some (.cells #[.int .i64 (m : Int)] 3 (0, 0))) (hBf : w.heap[Bf]? = some (.cells #[.int .i64 (fr : Int)] 3 (0, 0))) :
  SeqStopsK F n Try.prog 73 #[.pointer (some ⟨Bn, 0, none⟩), .pointer (some ⟨Bf, 0, none⟩)] (fun x : Rng m => #[Value.int .i64 x.1]) (KeepsTwo Bn Bf) (fun ys => ys.map (·.1) = roundL fr m) (fun pre => pre.map (·.1) <+: roundL fr m) m w := fun l J Jx W hW _ _ hY h0 =>
 round1K_in F n h73 hro hn l Bn Bf fr m hfr hm J Jx hY W (blk_below hBn hW) (blk_below hBf hW) h0
/-- What an iterator gives that lays loops of its own: what its caller keeps outlives these. -/
def SeqO {α : Type} (n : Nat) (P : Program) (g : Nat) (lb : Array Value) (encs : α → Array Value) (S Sp : List α → Prop) (N : Nat) (w : World) : Prop :=
 ∀ (l : Nat) (J Jx : List α → World → Prop) (W : World), Below w.heap.size w W → w.heap.size ≤ l → l < W.heap.size → OwnFrom W.heap.size J → OwnFrom W.heap.size Jx →
  (∀ (m : Nat) pre x W1, J pre W1 → pre.length < N → YieldAt Fence.wide m P l (encs x) W1 fun e W' =>
   (e = .returned (.bool true) ∧ J (pre ++ [x]) W' ∧ KeepsBut l W1 W') ∨ (e = .returned (.bool false) ∧ Jx (pre ++ [x]) W' ∧ KeepsFrom W.heap.size W1 W')) →
  J [] W →
  CallsIn Fence.wide n P g (#[.func (.yield l) #[] #[]] ++ lb) W fun e W' => (∃ v, e = .returned v) ∧ ((∃ xs, S xs ∧ J xs W') ∨ (∃ pre, Sp pre ∧ Jx pre W'))
/-- How a round's body may be left. -/
def bodyO {α : Type} (B : Nat) (I Ix : List α → World → Prop) (xs : List α) (W : World) : Exit → Act → World → Prop
 | .normal, _, W' => Below W.heap.size W W' ∧ I xs W'
 | .ret, _, W' => KeepsFrom B W W' ∧ Ix xs W'
 | _, _, _ => False
theorem rangeO {n : Nat} {P : Program} {α : Type} {g : Operand} {ps : Array Tmp} {assign body : Code} {Q : Exit → Act → World → Prop} {a : Act} {w : World} {gf : Nat} {lb : Array Value} (hg : a.eval g = .func (.func gf) #[] lb)
  (eg : ∀ args w, (callFunc gf args).run P w = .ok (.enter gf args) w) {encs : α → Array Value} {S Sp : List α → Prop} {N : Nat} {w0 : World} (hseq : SeqO (n - 1) P gf lb encs S Sp N w0) (hb0 : Below w0.heap.size w0 w) (hps : ∀ x, (encs x).size = ps.size)
  (I Ix : List α → World → Prop) (hI : OwnFrom w.heap.size I) (hIx : OwnFrom w.heap.size Ix) (h0 : I [] w) (a₁ : α → Act)
  (hassign : ∀ (m l : Nat) (x : α) (W : World) (K : Act → World → Prop), K (a₁ x) W → assign.wpIn (Fence.wide.inRound l) m P (Exit.then K (fun _ _ _ => False)) { tmps := (ps.zip (encs x)).foldl (fun t (p, v) => t.setIfInBounds p v) a.tmps, defers := [] } W)
  (hbody : ∀ (m l : Nat) (pre : List α) (x : α) (W : World), w.heap.size ≤ l → I pre W → w.heap.size + 2 ≤ W.heap.size → pre.length < N → body.wpIn (Fence.wide.inRound l) m P (bodyO w.heap.size I Ix (pre ++ [x]) W) (a₁ x) W)
  (hdone : ∀ (D : Nat) (xs : List α) (W : World), w.heap.size ≤ D → S xs → I xs W → W.heap[D]? = some (.deferred (some [])) → Q .normal { a with defers := { target := .collected D, args := #[] } :: a.defers } W)
  (hstop : ∀ (D : Nat) (pre : List α) (W : World), w.heap.size ≤ D → Sp pre → Ix pre W → W.heap[D]? = some (.deferred (some [])) → Code.ret.wpIn Fence.wide n P Q { a with defers := { target := .collected D, args := #[] } :: a.defers } W) :
  (Code.rangeFunc g ps assign body).wpIn Fence.wide n P Q a w := by
 refine wpIn_rangeFunc fun fn hfn => ?_
 obtain ⟨D, hD⟩ : ∃ D, w.heap.size = D := ⟨_, rfl⟩
 obtain ⟨rec, hrec⟩ : ∃ rec : LoopState → Option Code → Loop, rec = fun st pe => { state := st, pending := pe, fn, tmps := a.tmps, params := ps, assign, body, defers := D } := ⟨_, rfl⟩
 have ha : ∀ {A B : World} {row : Option Nat} {k : Nat} {o : Obj}, A.heap[k]? = some o → k < D + 2 → A.grownBy B row → (∀ r, row = some r → D + 2 ≤ r ∧ ∃ o : Obj, A.heap[r]? = some o ∧ o.isCells = false) → B.heap[k]? = some o := fun hs hk hg hr =>
  (hg.block _ (Array.getElem?_eq_some_iff.1 hs).1 (fun e => by have := (hr _ e.symm).1; omega)).trans hs
 have er := run_enterLoop_outer (P := P) (w := w) fn a.tmps ps assign body
 rw [hD] at er
 obtain ⟨W1, hW1⟩ : ∃ W1, (w.alloc (.deferred (some []))).alloc (.loop { state := .ready, pending := none, fn, tmps := a.tmps, params := ps, assign, body, defers := D }) = W1 := ⟨_, rfl⟩
 rw [hW1] at er
 have z1 : W1.heap.size = D + 2 := by rw [← hW1]; simp; omega
 have hL : W1.heap[D + 1]? = some (.loop (rec .ready none)) := by
  rw [← hW1, hrec]
  have := World.alloc_heap_new (w.alloc (.deferred (some []))) (.loop { state := .ready, pending := none, fn, tmps := a.tmps, params := ps, assign, body, defers := D })
  rw [World.size_alloc, hD] at this
  exact this
 have hM : W1.heap[D]? = some (.deferred (some [])) := by
  rw [← hW1]
  refine (Below.heap_alloc _ _ _ (by simp; omega)).trans ?_
  rw [← hD]
  exact World.alloc_heap_new w _
 have hI1 : I [] W1 := by rw [← hW1]; exact hI.alloc _ (hI.alloc _ h0)
 have hb1 : Below w0.heap.size w0 W1 := by rw [← hW1]; exact below_alloc (below_alloc hb0 _) _
 have hfit : ∀ x, (encs x).size = (rec .ready none).params.size := fun x => by rw [hrec]; exact hps x
 have heq : ∀ st pe, ({ rec .ready none with state := st, pending := pe } : Loop) = rec st pe := fun st pe => by rw [hrec]
 have hs0 : (rec .ready none).state = .ready := by rw [hrec]
 have hD0 : w.heap.size ≤ D := Nat.le_of_eq hD
 rw [hD] at hI hIx hbody hdone hstop
 refine ⟨D + 1, [{ target := .collected D, args := #[] }], W1, { target := .fn (.func gf) lb, args := #[.func (.yield (D + 1)) #[] #[]] }, W1, gf, #[.func (.yield (D + 1)) #[] #[]] ++ lb, W1, er, ?_, fun _ _ => trivial, ?_, ⟨fun h => (by cases h), ?_⟩⟩
 ·simp only [resolve, hg]
  simp [go_sem]
 ·simp [invoke, go_sem, eg]
 refine (hseq (D + 1)
  (fun pre W => (I pre W ∧ W.heap[D + 1]? = some (.loop (rec .ready none))) ∧ W.heap[D]? = some (.deferred (some [])))
  (fun pre W => (Ix pre W ∧ W.heap[D + 1]? = some (.loop (rec .done (some .ret)))) ∧ W.heap[D]? = some (.deferred (some [])))
  W1 hb1 (by have := hb0.size; omega) (by omega) (by
   rw [z1]
   exact fun s A B row hs hgr hr => ⟨⟨own_less hI (show D ≤ D + 2 by omega) s A B row hs.1.1 hgr hr, ha hs.1.2 (by omega) hgr hr⟩, ha hs.2 (by omega) hgr hr⟩) (by
   rw [z1]
   exact fun s A B row hs hgr hr => ⟨⟨own_less hIx (show D ≤ D + 2 by omega) s A B row hs.1.1 hgr hr, ha hs.1.2 (by omega) hgr hr⟩, ha hs.2 (by omega) hgr hr⟩)
  ?_ ⟨⟨hI1, hL⟩, hM⟩).mono ?_
 ·rintro m pre x W ⟨⟨hi, hl⟩, hd⟩ hlen
  have hlt : D + 1 < W.heap.size := (Array.getElem?_eq_some_iff.1 hl).1
  have hy := run_yield (P := P) (args := encs x) hl (hfit x)
  have hpb : ∀ o, Below D W (W.putObj (D + 1) o) := fun o => (Below.refl D W).grown (grownBy_putObj' W (D + 1) o) (by omega) (fun k e => by cases e; omega)
  rw [hrec] at hy
  refine ⟨fn, _, assign, body, hy, roundIn_of_wpIn hfn (hassign m _ x W _ ⟨_, run_beginRound hl hs0, ?_⟩)⟩
  obtain ⟨W2, hW2⟩ : ∃ W2, W.putObj (D + 1) (.loop { rec .ready none with state := .busy }) = W2 := ⟨_, rfl⟩
  have hk2 : KeepsBut (D + 1) W W2 := by rw [← hW2]; exact KeepsBut.put _ _ _
  have hl2 : W2.heap[D + 1]? = some (.loop { rec .ready none with state := .busy }) := by rw [← hW2]; exact World.putObj_heap_same hlt
  have hd2 := hk2.same D _ (by omega) hd
  have hi2 : I pre W2 := by rw [← hW2]; exact hI.putObj _ hi (by omega) hl rfl
  rw [hW2]
  refine wpIn_mono (hbody m _ pre x W2 (by omega) hi2 (by have := hk2.size; omega) hlen) ?_
  rintro e a3 W3 hp
  cases e with
  | normal =>
   obtain ⟨hb3, hi3⟩ := hp
   have hk3 := KeepsBut.below (l := W2.heap.size) hb3
   have hl3 := hk3.same _ _ (by have := (Array.getElem?_eq_some_iff.1 hl2).1; omega) hl2
   have hd3 := hk3.same _ _ (by have := (Array.getElem?_eq_some_iff.1 hl2).1; omega) hd2
   have hr := run_endRound (P := P) none hl3
   rw [hrec] at hr
   refine ⟨_, _, hr, .inl ⟨rfl, ⟨⟨hI.putObj _ hi3 (by omega) hl3 rfl, ?_⟩, (World.putObj_heap_other (by omega)).trans hd3⟩, hk2.trans ((KeepsBut.below hb3).trans (KeepsBut.put _ _ _))⟩⟩
   rw [World.putObj_heap_same (Array.getElem?_eq_some_iff.1 hl3).1, hrec]
   rfl
  | ret =>
   obtain ⟨hk3, hi3⟩ := hp
   have hl3 := hk3.same _ _ (by omega) hl2 rfl
   have hd3 := hk3.same _ _ (Nat.le_refl _) hd2 rfl
   have hr := run_endRound (P := P) (some .ret) hl3
   rw [hrec] at hr
   refine ⟨_, _, hr, .inr ⟨rfl, ⟨⟨hIx.putObj _ hi3 (by omega) hl3 rfl, ?_⟩, (World.putObj_heap_other (by omega)).trans hd3⟩, ?_⟩⟩
   ·rw [World.putObj_heap_same (Array.getElem?_eq_some_iff.1 hl3).1, hrec]
    rfl
   ·rw [z1]
    exact (hk2.from (by omega)).trans ((keeps_more hk3 (by omega)).trans (keeps_put (by omega) _ _))
  | exit id => exact hp.elim
  | goto t => exact hp.elim
  | panic ch => exact hp.elim
  | outgrown => exact hp.elim
 ·rintro e W2 ⟨⟨v, rfl⟩, (⟨xs, hS, ⟨hi, hl⟩, hd⟩ | ⟨pre, hSp, ⟨hi, hl⟩, hd⟩)⟩
  ·have hr := run_endLoop (P := P) hl (by rw [hrec]; simp)
   rw [hrec] at hr
   exact ⟨none, _, hr, hdone _ xs _ (Nat.le_refl _) hS (hI.putObj _ hi (by omega) hl rfl) ((World.putObj_heap_other (by omega)).trans hd)⟩
  ·have hr := run_endLoop (P := P) hl (by rw [hrec]; simp)
   rw [hrec] at hr
   exact ⟨some .ret, _, hr, hstop _ pre _ (Nat.le_refl _) hSp (hIx.putObj _ hi (by omega) hl rfl) ((World.putObj_heap_other (by omega)).trans hd)⟩
end Go.Proofs.Ytehjmmedghcndaa.PG
