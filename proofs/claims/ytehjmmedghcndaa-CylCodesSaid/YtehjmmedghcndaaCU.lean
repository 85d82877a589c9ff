import Derived.Test.YtehjmmedghcndaaCT
import Derived.Test.YtehjmmedghcndaaLT
/-! cyl.Take. -/
namespace Go.Proofs.Ytehjmmedghcndaa.PG
open Go.RowKit Go.Proofs.YtehjmmedghcndaaW.PrintWords Go.Proofs.YtehjmmedghcndaaW.PrintLast Go.Proofs.YtehjmmedghcndaaW.PrintMore
attribute [local go_sem] Oper.semAt_some
open Go.Shelf
section
variable {P : Program} {ops : Array Oper} {Q : Exit → Act → World → Prop} {o : Oper} {rest : List Oper} {a : Act} {W w1 : World} {m lr : Nat}
theorem value_in {v : Value} (hgd : o.guard = none) (hnd : ∀ c, o.op ≠ .defer c) (hrun : (execOp a.eval o).run P W = .ok (.value v) w1) (h : wpListIn (Fence.wide.inRound lr) m P ops Q rest (a.put o.dst v) w1) : wpListIn (Fence.wide.inRound lr) m P ops Q (o :: rest) a W :=
 wpListIn_plain hgd fun K hK => ⟨fun _ _ => trivial, by
  rw [show (Fence.wide.inRound lr).round = some lr from rfl, Oper.semAt_some lr a.eval o hnd, hrun]
  exact hK _ _ h⟩
theorem skip_in (hgd : o.guard = none) (hnd : ∀ c, o.op ≠ .defer c) (hN : o.dst = none) (hrun : (execOp a.eval o).run P W = .ok .skip w1) (h : ∀ w', w' = w1 → wpListIn (Fence.wide.inRound lr) m P ops Q rest a w') : wpListIn (Fence.wide.inRound lr) m P ops Q (o :: rest) a W :=
 wpListIn_plain hgd fun K hK => ⟨fun _ _ => trivial, by
  rw [show (Fence.wide.inRound lr).round = some lr from rfl, Oper.semAt_some lr a.eval o hnd, hrun]
  show K (a.put o.dst undef) w1
  rw [hN]
  exact hK _ _ (h _ rfl)⟩
theorem box_in (hgd : o.guard = none) (hnd : ∀ c, o.op ≠ .defer c) {cs : Array Value} {t : TypeId} (hrun : (execOp a.eval o).run P W = .ok (.value (.pointer (some ⟨W.heap.size, 0, none⟩))) (W.alloc (.cells cs t (0, 0))))
  (h : ∀ g, g = W.heap.size → ∀ w1, w1.heap[g]? = some (.cells cs t (0, 0)) → Below W.heap.size W w1 → KeepsOthers W w1 → wpListIn (Fence.wide.inRound lr) m P ops Q rest (a.put o.dst (.pointer (some ⟨g, 0, none⟩))) w1) : wpListIn (Fence.wide.inRound lr) m P ops Q (o :: rest) a W :=
 value_in hgd hnd hrun (h _ rfl _ (blk_new W _) (below_alloc (Below.refl _ _) _) (KeepsOthers.alloc _ _))
theorem gateIn_dst {F : Fence} {N : Tmp} (_h : o.dst = some N) (h : wpListIn F m P ops Q (o :: rest) a W) : wpListIn F m P ops Q (o :: rest) a W := h
theorem gateIn_store {F : Fence} {t : TypeId} {p : Tmp} {v : Operand} (_h : o.op = .store t (.tmp p) v) (h : wpListIn F m P ops Q (o :: rest) a W) : wpListIn F m P ops Q (o :: rest) a W := h
end
theorem skipE_ {P : Program} {ops : Array Oper} {Q : Exit → Act → World → Prop} {oi : Oper} {a : Act} {w w1 : World} {K : Act → World → Prop} (hw : Region.wanted oi (yielded ops a.tmps) = true) (hN : oi.dst = none) (hrun : (execOp a.eval oi).run P w = .ok .skip w1)
  (h : ∀ w', w' = w1 → K a w') : if Region.wanted oi (yielded ops a.tmps) = true then Oper.wp P oi a w K Q else K (a.put none undef) w := skip_ hw hN hrun (h _ rfl)
theorem keeps_up {B : Nat} {W W1 : World} (h : KeepsFrom 0 W W1) : KeepsFrom B W W1 := ⟨h.size, fun k o _ hk ho => h.same k o (Nat.zero_le _) hk ho⟩
theorem keeps_below {B : Nat} {W W' : World} (h : Below W.heap.size W W') : KeepsFrom B W W' := ⟨h.size, fun k _ _ hk _ => (h.block k (Array.getElem?_eq_some_iff.1 hk).1).trans hk⟩
theorem blk_new2 (w : World) (o o2 : Obj) : ((w.alloc o).alloc o2).heap[w.heap.size + 1]? = some o2 := by
 have := blk_new (w.alloc o) o2
 rw [World.size_alloc] at this
 exact this
theorem KeepsOthers.set7 {W : World} (q o : Nat) (v0 v1 v2 v3 v4 v5 v6 : Value) : KeepsOthers W (((((((W.setCell ⟨q, o, none⟩ v0).setCell ⟨q, o + 1, none⟩ v1).setCell ⟨q, o + 2, none⟩ v2).setCell ⟨q, o + 3, none⟩ v3).setCell ⟨q, o + 4, none⟩ v4).setCell ⟨q, o + 5, none⟩ v5).setCell ⟨q, o + 6, none⟩ v6) :=
 ((((((KeepsOthers.setCell _ _ _).trans (KeepsOthers.setCell _ _ _)).trans (KeepsOthers.setCell _ _ _)).trans (KeepsOthers.setCell _ _ _)).trans (KeepsOthers.setCell _ _ _)).trans (KeepsOthers.setCell _ _ _)).trans (KeepsOthers.setCell _ _ _)
/-- The first free block of a group, from one on. -/
def freeC (c : S42) (fr : Int) : Option Int := (roundL fr.toNat c.f1.toNat).find? (fun y => !c.f5.contains y)
/-- The same in the group of a number: near one, or where the next one is looked for. -/
def freeAt (l : List S42) (g b x : Int) : Option Int := freeC (rd_T42 l x) (if x = g then b else (rd_T42 l x).f4)
/-- A group of which a block is taken. -/
def takeC (c : S42) (b : Int) : S42 := ⟨c.f0, c.f1, c.f1 - ((c.f5.length : Int) + 1), 16 - (c.f6.length : Int), (b + 1) % c.f1, putAt c.f5 (ixOf c.f5 b) b, c.f6⟩
/-- A block is taken near one. -/
def takeS (l : List S42) (g b : Int) : List S42 × Int × Int × Int :=
 if mayS l g b 46 ≠ 0 then ([], 0, 0, mayS l g b 46) else
 match (roundL g.toNat l.length).findSome? (fun x => (freeAt l g b x).map (fun y => (x, y))) with
 | none => ([], 0, 0, 4)
 | some (x, y) => (l.set x.toNat (takeC (rd_T42 l x) y), x, y, 0)
def tk_T15 : Bool × List (List Nat × List Nat) := (true, [([], []), ([], []), ([1], [1]), ([], []), ([3], [3]), ([2, 4], [2, 4]), ([0, 3, 4], []), ([6, 0, 0, 3, 4], [0, 6]), ([0, 1, 2, 3, 4, 5, 6, 7], []), ([8, 5, 7, 0, 1, 2, 3, 4, 5, 6, 7], [5, 8])])
def tk_B15 : List Nat := [0, 0, 2, 0, 8, 30, 25, 89, 255, 511]
theorem tk_tab15 : rtab .any (opsOf Try.f13 15) = tk_T15 := by kernel_rfl
theorem tk_bits15 : waitsOk tk_T15.2 tk_B15 = true := by kernel_rfl
def tk_T16 : Bool × List (List Nat × List Nat) := (true, [([], []), ([], []), ([], []), ([2], [2]), ([0, 1, 0, 1, 2, 3], [0, 1]), ([4, 3, 3, 0, 1, 2, 3], [3, 4])])
def tk_B16 : List Nat := [0, 0, 0, 4, 15, 31]
theorem tk_tab16 : rtab .any (opsOf Try.f13 16) = tk_T16 := by kernel_rfl
theorem tk_bits16 : waitsOk tk_T16.2 tk_B16 = true := by kernel_rfl
def tk_T17 : Bool × List (List Nat × List Nat) := (true, [([], []), ([], []), ([], []), ([1, 2], [1, 2]), ([0, 0], [0]), ([3, 4, 0, 1, 2, 3, 4], [3]), ([5, 0, 1, 2, 3, 4, 5], [])])
def tk_B17 : List Nat := [0, 0, 0, 6, 1, 31, 63]
theorem tk_tab17 : rtab .any (opsOf Try.f13 17) = tk_T17 := by kernel_rfl
theorem tk_bits17 : waitsOk tk_T17.2 tk_B17 = true := by kernel_rfl
set_option maxHeartbeats 8000000 in
set_option maxRecDepth 100000 in
theorem take_ok (A0 : Option Addr) (c0 : Nat) (l : List S42) (gn bn : Nat) (w : World) (hC : Kd.C k42 w A0 l.length l) (hc0 : l.length ≤ c0) (hw : wholeB l = true) (hm : mayS l (gn : Int) (bn : Int) 46 = 0) :
  Calls Try.prog 13 #[.slice A0 l.length c0, .agg #[.int .i64 (gn : Int), .int .i64 (bn : Int)]] w fun e w' => ∃ v, e = .returned (.tuple #[v, .agg #[.int .i64 (takeS l gn bn).2.1, .int .i64 (takeS l gn bn).2.2.1], .int .i64 (takeS l gn bn).2.2.2]) ∧ Kd.S k42 42 w' w.heap.size (fun _ => True) v (takeS l gn bn).1 ∧ Below w.heap.size w w' := by
 have hw_ := (whole_iff l).1 hw
 have hn := hw_.n1
 have hsm := hw_.small
 have hpos := hw_.n0
 have hcop := copied_is l hsm 0
 have hmay : cyl_may.f l (gn : Int) (bn : Int) 46 = some 0 := by
  unfold cyl_may.f
  rw [if_pos ⟨hsm, .inl rfl⟩, hm]
 have hgb : (gn : Int) < (l.length : Int) ∧ (bn : Int) < (rd_T42 l (gn : Int)).f1 := by
  unfold mayS at hm
  rw [hw, if_neg (by decide)] at hm
  by_cases hh : (gn : Int) < 0 ∨ (l.length : Int) ≤ (gn : Int) ∨ (bn : Int) < 0 ∨ manyS 46 (rd_T42 l (gn : Int)) ≤ (bn : Int)
  ·rw [if_pos hh] at hm; cases hm
  ·unfold manyS at hh
   rw [if_pos rfl] at hh
   omega
 have HC := Aside0.mk hC
 have HCC := Aside0.mk hc0
 have HWH := Aside0.mk hw_
 have HMAY := Aside0.mk hmay
 have HCOP := Aside0.mk hcop
 have HGB := Aside0.mk hgb
 have HPOS := Aside0.mk hpos
 have HN := Aside0.mk hn
 have HM0 := Aside0.mk hm
 clear hC hc0 hw hw_ hn hsm hpos hcop hmay hgb hm
 have hu42 := Try.underlying42
 have hu24 := Try.underlying24
 refine (callsIn_wide (n := 12)).1 ?_
 refine callsIn_of_wp_marks Try.func13 rfl trivial ?_ rfl
 simp only [Try.ntmps13, List.size_toArray, List.length_cons, List.length_nil, Nat.reduceAdd, Nat.reduceSub, Array.replicate_succ, Array.replicate_zero, List.push_toArray, List.append_toArray, List.nil_append, List.cons_append]
 refine wpIn_wide.2 ?_
 go_upto_region 1 with (first | ((with_reducible refine gate_dst (N := 3) rfl ?_); refine box_event rfl (N := 3) rfl (cs := #[.int .i64 (gn : Int), .int .i64 (bn : Int)]) (t := 24) (by first | (go_simp; done) | (go_simp; rfl)) ?_; intro g3 hg w1 hbox hb; have K3 := Aside0.mk hbox; have HB1 := Aside0.mk hb; have P3 := Aside0.mk (show w.heap.size ≤ g3 by omega); clear hb hbox hg) | ((with_reducible refine gate_dst (N := 4) rfl ?_); refine box_event rfl (N := 4) rfl (cs := #[.slice none 0 0]) (t := 22) (by first | (go_simp; done) | (go_simp; rfl)) ?_; intro g4 hg w2 hbox hb; have K4 := Aside0.mk hbox; have K32 := Aside0.mk (blk_below K3.out hb); have P4 := Aside0.mk (show w.heap.size ≤ g4 by rw [hg]; exact HB1.out.size); have HB2 := Aside0.mk (below_step HB1.out hb); clear K3 HB1; clear hb hbox hg) | ((with_reducible refine gate_dst (N := 5) rfl ?_); refine box_event rfl (N := 5) rfl (cs := #[.int .i64 0, .int .i64 0]) (t := 24) (by first | (go_simp; done) | (go_simp; rfl)) ?_; intro g5 hg w3 hbox hb; have K5 := Aside0.mk hbox; have K33 := Aside0.mk (blk_below K32.out hb); have K43 := Aside0.mk (blk_below K4.out hb); have P5 := Aside0.mk (show w.heap.size ≤ g5 by rw [hg]; exact HB2.out.size); have D45 := Aside0.mk (show g4 ≠ g5 by rw [hg]; have := blk_lt K4.out; omega); have HB3 := Aside0.mk (below_step HB2.out hb); clear K32 K4 HB2; clear hb hbox hg) | ((with_reducible refine gate_dst (N := 6) rfl ?_); refine box_event rfl (N := 6) rfl (cs := #[.int .i64 0]) (t := 26) (by first | (go_simp; done) | (go_simp; rfl)) ?_; intro g6 hg w4 hbox hb; have K6 := Aside0.mk hbox; have K34 := Aside0.mk (blk_below K33.out hb); have K44 := Aside0.mk (blk_below K43.out hb); have K54 := Aside0.mk (blk_below K5.out hb); have P6 := Aside0.mk (show w.heap.size ≤ g6 by rw [hg]; exact HB3.out.size); have D46 := Aside0.mk (show g4 ≠ g6 by rw [hg]; have := blk_lt K43.out; omega); have D56 := Aside0.mk (show g5 ≠ g6 by rw [hg]; have := blk_lt K5.out; omega); have HB4 := Aside0.mk (below_step HB3.out hb); clear K33 K43 K5 HB3; clear hb hbox hg))
 obtain ⟨c0_, c1_⟩ := c2 K34
 go_upto_region 2 with (go_at_call 45; refine (cyl_may.calls A0 c0 l (gn : Int) (bn : Int) 46 0 w4 (Kd.C_below HC.out HB4.out) HCC.out HMAY.out).mono ?_; rintro e w5 ⟨rfl, hb⟩; have K35 := Aside0.mk (blk_below K34.out hb); have K45 := Aside0.mk (blk_below K44.out hb); have K55 := Aside0.mk (blk_below K54.out hb); have K65 := Aside0.mk (blk_below K6.out hb); have HB5 := Aside0.mk (below_step HB4.out hb); clear hb K34 K44 K54 K6 HB4 c0_ c1_)
 go_upto_region 4 with (fail)
 go_upto_region 5 with (first | (go_at_call 47; refine (cyl_copied.calls (0 + 1001) A0 c0 l l w5 (Kd.C_below HC.out HB5.out) HCC.out HCOP.out).mono ?_; rintro e w6 ⟨v9, rfl, hS, hb⟩; obtain ⟨go, co, rfl, _, _, _⟩ := Kd.S_form hS (by have := HPOS.out; omega); have HS6 := Aside0.mk hS; have K36 := Aside0.mk (blk_below K35.out hb); have K46 := Aside0.mk (blk_below K45.out hb); have K56 := Aside0.mk (blk_below K55.out hb); have K66 := Aside0.mk (blk_below K65.out hb); have SZ5 := Aside0.mk HB5.out.size; have HB6 := Aside0.mk (below_step HB5.out hb); clear hS hb K35 K45 K55 K65 HB5) | ((with_reducible refine gate_dst (N := 8) rfl ?_); refine box_event rfl (N := 8) rfl (cs := #[.slice none 0 0]) (t := 22) (by first | (go_simp; done) | (go_simp; rfl)) ?_; intro g8 hg w7 hbox hb; have K8 := Aside0.mk hbox; have K37 := Aside0.mk (blk_below K36.out hb); have K47 := Aside0.mk (blk_below K46.out hb); have K57 := Aside0.mk (blk_below K56.out hb); have K67 := Aside0.mk (blk_below K66.out hb); have HS7 := Aside0.mk (Kd.S_below HS6.out hb); have P8 := Aside0.mk (show w6.heap.size ≤ g8 by omega); have P68 := Aside0.mk (show w.heap.size ≤ g8 by rw [hg]; exact HB6.out.size); have D38 := Aside0.mk (show g3 ≠ g8 by rw [hg]; have := blk_lt K36.out; omega); have D48 := Aside0.mk (show g4 ≠ g8 by rw [hg]; have := blk_lt K46.out; omega); have D58 := Aside0.mk (show g5 ≠ g8 by rw [hg]; have := blk_lt K56.out; omega); have D68 := Aside0.mk (show g6 ≠ g8 by rw [hg]; have := blk_lt K66.out; omega); have HB7 := Aside0.mk (below_step HB6.out hb); clear K36 K46 K56 K66 HS6 HB6; have r8 : w7.cell? ⟨g8, 0, none⟩ = some (.slice none 0 0) := (blk_cell K8.out 0).trans rfl; have z8 := blk_frozen K8.out 0; clear hb hbox hg) | ((with_reducible refine gate_store (t := 22) (p := 8) rfl ?_); refine store_event (t := 22) (p := 8) (v := ?vo_w8) (w1 := (w7.setCell ⟨g8, 0, none⟩ (.slice (some ⟨go, 0, none⟩) l.length co))) ?hg ?ho ?hn ?hr ?_; (case ho => rfl); (case hg => rfl); (case hn => rfl); (case hr => first | (go_simp; done) | (go_simp; rfl)); intro w8 hw; have K38 : Aside0 (w8.heap[g3]? = some (.cells #[.int .i64 (gn : Int), .int .i64 (bn : Int)] 24 (0, 0))) := ⟨by rw [hw]; exact blk_far K37.out D38.out _⟩; have K48 : Aside0 (w8.heap[g4]? = some (.cells #[.slice none 0 0] 22 (0, 0))) := ⟨by rw [hw]; exact blk_far K47.out D48.out _⟩; have K58 : Aside0 (w8.heap[g5]? = some (.cells #[.int .i64 0, .int .i64 0] 24 (0, 0))) := ⟨by rw [hw]; exact blk_far K57.out D58.out _⟩; have K68 : Aside0 (w8.heap[g6]? = some (.cells #[.int .i64 0] 26 (0, 0))) := ⟨by rw [hw]; exact blk_far K67.out D68.out _⟩; have K88 : Aside0 (w8.heap[g8]? = some (.cells #[.slice (some ⟨go, 0, none⟩) l.length co] 22 (0, 0))) := ⟨by rw [hw]; exact blk_put K8.out 0 _ rfl⟩; have HS8 : Aside0 (Kd.S k42 42 w8 w5.heap.size (fun _ => True) (.slice (some ⟨go, 0, none⟩) l.length co) l) := ⟨by rw [hw]; exact Kd.S_set HS7.out K8.out (by decide) 0 _⟩; have HB8 : Aside0 (Below w.heap.size w w8) := ⟨by rw [hw]; exact below_set HB7.out P68.out⟩; clear K37 K47 K57 K67 K8 HS7 HB7 r8 z8; clear hw))
 have cg : w8.cell? ⟨g3, 0, none⟩ = some (.int .i64 (gn : Int)) := (blk_cell K38.out 0).trans rfl
 go_wp2_with (go_at_call 48; go_loud (refine ((callsIn_wide (n := 5)).1 (round_in Fence.wide 5 trivial rfl (gn : Int) (l.length : Int) w8)).mono ?_; rintro e w9 ⟨rfl, hw9⟩; have KF : Aside0 (w9.heap[w8.heap.size]? = some (.cells #[.int .i64 (gn : Int)] 3 (0, 0))) := ⟨by rw [hw9]; first | done | exact blk_alloc (blk_new w8 _) _⟩; have KN : Aside0 (w9.heap[w8.heap.size + 1]? = some (.cells #[.int .i64 (l.length : Int)] 3 (0, 0))) := ⟨by rw [hw9]; first | done | exact blk_new2 _ _ _⟩; have hb : Below w8.heap.size w8 w9 := (by rw [hw9]; first | done | exact below_alloc (below_alloc (Below.refl _ _) _) _); have K39 := Aside0.mk (blk_below K38.out hb); have K49 := Aside0.mk (blk_below K48.out hb); have K59 := Aside0.mk (blk_below K58.out hb); have K69 := Aside0.mk (blk_below K68.out hb); have K89 := Aside0.mk (blk_below K88.out hb); have HS9 := Aside0.mk (Kd.S_below HS8.out hb); have HB9 := Aside0.mk (below_step HB8.out hb); clear hb hw9 K38 K48 K58 K68 K88 HS8 HB8 cg))
 obtain ⟨sF, hsF⟩ : ∃ s, w8.heap.size = s := ⟨_, rfl⟩
 rw [hsF] at KF KN ⊢
 clear hsF
 refine (wpIn_wide (n := 12)).1 ?_
 have hcN : w9.cell? ⟨sF + 1, 0, none⟩ = some (.int .i64 (l.length : Int)) := (blk_cell KN.out 0).trans rfl
 have hcF : w9.cell? ⟨sF, 0, none⟩ = some (.int .i64 (gn : Int)) := (blk_cell KF.out 0).trans rfl
 have hlN := blk_lt KN.out
 have hlen := HN.out
 have hgnl := HGB.out.1
 refine wpIn_rangeFunc_ownH rfl (by omega) (gf := 73) (lb := #[.pointer (some ⟨sF + 1, 0, none⟩), .pointer (some ⟨sF, 0, none⟩)]) rfl trivial (enters_of Try.func73 (by kernel_rfl) rfl)
  (round_stops Fence.wide 11 trivial rfl (by omega) (sF + 1) sF w9.heap.size gn l.length (by omega) (by omega) w9 (by omega) (by omega) (Nat.le_refl _) hcN hcF) belowK_t (belowK_b (Nat.le_refl _)) (Below.refl _ _) (fun _ => rfl)
  (fun pre W => (∀ z ∈ pre, freeAt l (gn : Int) (bn : Int) z.1 = none) ∧ Below w9.heap.size w9 W)
  (fun c pre W => (c = .ret ∧ ∃ (p : List (Rng l.length)) (x : Rng l.length) (z : Int), pre = p ++ [x] ∧ (∀ t ∈ p, freeAt l (gn : Int) (bn : Int) t.1 = none) ∧ freeAt l (gn : Int) (bn : Int) x.1 = some z ∧ (W.heap[g4]? = some (.cells #[.slice (some ⟨go, 0, none⟩) l.length co] 22 (0, 0)) ∧ W.heap[g5]? = some (.cells #[.int .i64 x.1, .int .i64 z] 24 (0, 0)) ∧ W.heap[g6]? = some (.cells #[.int .i64 0] 26 (0, 0)) ∧ Kd.S k42 42 W w.heap.size (fun _ => True) (.slice (some ⟨go, 0, none⟩) l.length co) (l.set (x.1 : Int).toNat (takeC (rd_T42 l x.1) z)) ∧ Below w.heap.size w W)))
  (OwnFrom.and (ownFrom_pure _ _) (ownFrom_below (Nat.le_refl _) (Nat.le_refl _)))
  (fun c => fun s A B row hs hg hr => by
   obtain ⟨e, p, x, z, h1, h2, h3, h4, h5, h6, h7, h8⟩ := hs
   exact ⟨e, p, x, z, h1, h2, h3, ownF_blk w9.heap.size g4 22 (fun (_ : Unit) => #[.slice (some ⟨go, 0, none⟩) l.length co]) () A B row h4 hg hr, ownF_blk w9.heap.size g5 24 (fun (_ : Unit) => #[.int .i64 x.1, .int .i64 z]) () A B row h5 hg hr, ownF_blk w9.heap.size g6 26 (fun (_ : Unit) => #[.int .i64 0]) () A B row h6 hg hr, ownF_S w9.heap.size w.heap.size _ (fun (_ : Unit) => l.set (x.1 : Int).toNat (takeC (rd_T42 l x.1) z)) () A B row h7 hg hr, ownFrom_below (Nat.le_refl _) HB9.out.size () A B row h8 hg hr⟩)
  ⟨by simp, Below.refl _ _⟩
  (fun x a' W => ∃ Bx, w9.heap.size ≤ Bx ∧ W.heap[Bx]? = some (.cells #[.int .i64 x.1] 3 (0, 0)) ∧ a' = { tmps := #[.slice A0 l.length c0, .agg #[.int .i64 (gn : Int), .int .i64 (bn : Int)], undef, .pointer (some ⟨g3, 0, none⟩), .pointer (some ⟨g4, 0, none⟩), .pointer (some ⟨g5, 0, none⟩), .pointer (some ⟨g6, 0, none⟩), .int .i64 0, .pointer (some ⟨g8, 0, none⟩), .pointer (some ⟨Bx, 0, none⟩), undef, undef, undef, undef, undef, .slice A0 l.length c0, .agg #[.int .i64 (gn : Int), .int .i64 (bn : Int)], .int .i64 0, .int .i64 0, .bool false, undef, undef, .slice A0 l.length c0, .slice (some ⟨go, 0, none⟩) l.length co, .pointer (some ⟨g3, 0, none⟩), .int .i64 (gn : Int), .slice A0 l.length c0, .int .i64 (l.length : Int), .func (.func 73) #[] #[.pointer (some ⟨sF + 1, 0, none⟩), .pointer (some ⟨sF, 0, none⟩)], .int .i64 x.1, undef, undef, undef, undef, undef, undef, undef, undef, undef, undef, undef, undef, undef, undef, undef, undef, undef, undef, undef, undef, undef, undef, undef, undef, undef, undef, undef, undef, undef, undef, undef, undef, undef, undef, undef, undef, undef, undef, undef, undef, undef, undef, undef, undef], defers := [] })
  (fun x a' _ X Y row hs hg hr => by obtain ⟨Bx, e1, e2, e3⟩ := hs; exact ⟨Bx, e1, ownF_blk w9.heap.size Bx 3 (fun (_ : Unit) => #[.int .i64 x.1]) () X Y row e2 hg hr, e3⟩)
  ?assign ?body ?done ?stop
 case assign =>
  rintro lr pre x W K ⟨hf, hB⟩ hK
  gi_wp2
  exact hK _ _ ((KeepsOthers.alloc _ _).from _) ((Below.refl _ W).alloc hB.size _) ⟨hf, hB.alloc hB.size _⟩ ⟨W.heap.size, hB.size, blk_new W _, rfl⟩

 case body =>
  rintro lr pre x a' W hl ⟨r, hr⟩ ⟨hfull, hB⟩ ⟨Bx, hBx, hbx, rfl⟩ hlt
  obtain ⟨x, hx0, hx1⟩ := x
  obtain ⟨xn, rfl⟩ := Int.eq_ofNat_of_zero_le hx0
  have hxl : xn < l.length := by omega
  have hry := (HWH.out.at_ xn hxl).2
  have hxy := rdT_at l xn hxl
  have hgd : l.getD xn z42 = l[xn] := by simp [List.getD_eq_getElem?_getD, hxl]
  have HSW := Aside0.mk (Kd.S_below HS9.out hB)
  obtain ⟨oki, ce, _, hM, hcc, _, _, _⟩ := Kd.S_elem HSW.out z42 (xn : Int) (by omega) (by omega)
  simp only [Int.toNat_natCast] at hM hcc
  rw [hgd] at hM
  obtain ⟨y, hy⟩ : ∃ y, l[xn] = y := ⟨_, rfl⟩
  rw [hy] at hry hxy hM hgd
  obtain ⟨rn, hrn⟩ := Int.eq_ofNat_of_zero_le hry.r0
  obtain ⟨mn, hmn⟩ := Int.eq_ofNat_of_zero_le (show 0 ≤ y.f1 by have := hry.b0; omega)
  obtain ⟨v5, v6, rfl, m5, m6⟩ := k42_openM hM
  obtain ⟨A5, c5, rfl⟩ := Kd.R_slice m5
  obtain ⟨A6, c6, rfl⟩ := Kd.R_slice m6
  rw [hrn, hmn] at hcc
  have x0 : W.cell? ⟨go, xn * 7, none⟩ = some (.int .i64 y.f0) := hcc 0 _ rfl
  have x1 : W.cell? ⟨go, xn * 7 + 1, none⟩ = some (.int .i64 (mn : Int)) := hcc 1 _ rfl
  have x2 : W.cell? ⟨go, xn * 7 + 2, none⟩ = some (.int .i64 y.f2) := hcc 2 _ rfl
  have x3 : W.cell? ⟨go, xn * 7 + 3, none⟩ = some (.int .i64 y.f3) := hcc 3 _ rfl
  have x4 : W.cell? ⟨go, xn * 7 + 4, none⟩ = some (.int .i64 (rn : Int)) := hcc 4 _ rfl
  have x5 : W.cell? ⟨go, xn * 7 + 5, none⟩ = some (.slice A5 y.f5.length c5) := hcc 5 _ rfl
  have x6 : W.cell? ⟨go, xn * 7 + 6, none⟩ = some (.slice A6 y.f6.length c6) := hcc 6 _ rfl
  have G5 := Aside0.mk (Kd.R_reads' m5).2.2
  have L5 := Aside0.mk (Kd.R_reads' m5).2.1
  have G6 := Aside0.mk (Kd.R_reads' m6).2.2
  have HRY := Aside0.mk hry
  have HXY := Aside0.mk hxy
  have HGD := Aside0.mk hgd
  have HRN := Aside0.mk hrn
  have HMN := Aside0.mk hmn
  have HFULL := Aside0.mk hfull
  have HBW := Aside0.mk hB
  have HR := Aside0.mk hr
  have HBX := Aside0.mk hBx
  have HXL := Aside0.mk hxl
  have HL := Aside0.mk hl
  have KX_W := Aside0.mk hbx
  have K3_W := Aside0.mk (blk_below K39.out hB)
  have K4_W := Aside0.mk (blk_below K49.out hB)
  have K5_W := Aside0.mk (blk_below K59.out hB)
  have K6_W := Aside0.mk (blk_below K69.out hB)
  have K8_W := Aside0.mk (blk_below K89.out hB)
  have cx_ : W.cell? ⟨Bx, 0, none⟩ = some (.int .i64 (xn : Int)) := (blk_cell KX_W.out 0).trans rfl
  obtain ⟨cg_, cb_⟩ := c2 K3_W
  have c8_ : W.cell? ⟨g8, 0, none⟩ = some (.slice (some ⟨go, 0, none⟩) l.length co) := (blk_cell K8_W.out 0).trans rfl
  have HX6 : Aside0 (∀ W_, Below W.heap.size W W_ → W_.cell? ⟨go, (xn : Int).toNat * 7 + 6, none⟩ = some (.slice A6 y.f6.length c6)) := ⟨fun W_ hb => pw_cell_below hb x6⟩
  obtain ⟨gcs, hgo⟩ := Kd.S_typed HSW.out go rfl
  have PGO : Aside0 (Bx ≠ go ∧ g3 ≠ go ∧ g4 ≠ go ∧ g5 ≠ go ∧ g6 ≠ go ∧ g8 ≠ go) := ⟨⟨blk_ne KX_W.out hgo (by decide), blk_ne K3_W.out hgo (by decide), blk_ne K4_W.out hgo (by decide), blk_ne K5_W.out hgo (by decide), blk_ne K6_W.out hgo (by decide), blk_ne K8_W.out hgo (by decide)⟩⟩
  clear hgo
  have p1 : (0 ≤ (xn : Int)) = True := eq_true hx0
  have q1 : ((xn : Int) < (l.length : Int)) = True := eq_true hx1
  clear hM hcc m5 m6 hry hxy hgd hrn hmn hfull hB hr hBx hbx hlt hl hcN hcF hlN hlen hgnl hxl hy
  by_cases hxg : xn = gn
  ·have HXG := Aside0.mk hxg
   have fg : ((xn : Int) == (gn : Int)) = true := by rw [hxg]; exact beq_self_eq_true _
   clear hxg
   gi_wp2_with (first | ((with_reducible refine gateIn_dst (N := 10) rfl ?_); refine box_in rfl (fun _ h => by cases h) (cs := #[.int .i64 0, .int .i64 0, .int .i64 0, .int .i64 0, .int .i64 0, .slice none 0 0, .slice none 0 0]) (t := 42) ?hrwa ?_; (case hrwa => first | (go_simp; done) | (go_simp; rfl)); intro gc hg wa hbox hb hk; have KC_a := Aside0.mk hbox; have HBa := Aside0.mk hb; have HKa := Aside0.mk hk; have PC := Aside0.mk (show W.heap.size ≤ gc by omega); have KX_a := Aside0.mk (blk_below KX_W.out hb); have K3_a := Aside0.mk (blk_below K3_W.out hb); have K4_a := Aside0.mk (blk_below K4_W.out hb); have K5_a := Aside0.mk (blk_below K5_W.out hb); have K6_a := Aside0.mk (blk_below K6_W.out hb); have K8_a := Aside0.mk (blk_below K8_W.out hb); clear cx_ cg_ cb_ c8_; obtain ⟨r0, r1, r2, r3, r4, r5, r6, z0, z1, z2, z3, z4, z5, z6⟩ := cf7 KC_a; clear hb hbox hg hk) | ((with_reducible refine gateIn_store (t := 42) (p := 10) rfl ?_); refine skip_in (w1 := (((((((wa.setCell ⟨gc, 0, none⟩ (.int .i64 y.f0)).setCell ⟨gc, 1, none⟩ (.int .i64 (mn : Int))).setCell ⟨gc, 2, none⟩ (.int .i64 y.f2)).setCell ⟨gc, 3, none⟩ (.int .i64 y.f3)).setCell ⟨gc, 4, none⟩ (.int .i64 (rn : Int))).setCell ⟨gc, 5, none⟩ (.slice A5 y.f5.length c5)).setCell ⟨gc, 6, none⟩ (.slice A6 y.f6.length c6))) rfl (fun _ h => by cases h) rfl ?hrwb ?_; (case hrwb => first | (go_simp; done) | (go_simp; rfl)); intro wb hw; have KC_b : Aside0 (wb.heap[gc]? = some (.cells #[.int .i64 y.f0, .int .i64 (mn : Int), .int .i64 y.f2, .int .i64 y.f3, .int .i64 (rn : Int), .slice A5 y.f5.length c5, .slice A6 y.f6.length c6] 42 (0, 0))) := ⟨by rw [hw]; exact blk_put7 KC_a.out rfl _ _ _ _ _ _ _⟩; have KX_b : Aside0 (wb.heap[Bx]? = some (.cells #[.int .i64 (xn : Int)] 3 (0, 0))) := ⟨by rw [hw]; exact blk_far7 KX_a.out (fun e => by have := blk_lt KX_W.out; have := PC.out; omega) 0 _ _ _ _ _ _ _⟩; have K3_b : Aside0 (wb.heap[g3]? = some (.cells #[.int .i64 (gn : Int), .int .i64 (bn : Int)] 24 (0, 0))) := ⟨by rw [hw]; exact blk_far7 K3_a.out (fun e => by have := blk_lt K3_W.out; have := PC.out; omega) 0 _ _ _ _ _ _ _⟩; have K4_b : Aside0 (wb.heap[g4]? = some (.cells #[.slice none 0 0] 22 (0, 0))) := ⟨by rw [hw]; exact blk_far7 K4_a.out (fun e => by have := blk_lt K4_W.out; have := PC.out; omega) 0 _ _ _ _ _ _ _⟩; have K5_b : Aside0 (wb.heap[g5]? = some (.cells #[.int .i64 0, .int .i64 0] 24 (0, 0))) := ⟨by rw [hw]; exact blk_far7 K5_a.out (fun e => by have := blk_lt K5_W.out; have := PC.out; omega) 0 _ _ _ _ _ _ _⟩; have K6_b : Aside0 (wb.heap[g6]? = some (.cells #[.int .i64 0] 26 (0, 0))) := ⟨by rw [hw]; exact blk_far7 K6_a.out (fun e => by have := blk_lt K6_W.out; have := PC.out; omega) 0 _ _ _ _ _ _ _⟩; have K8_b : Aside0 (wb.heap[g8]? = some (.cells #[.slice (some ⟨go, 0, none⟩) l.length co] 22 (0, 0))) := ⟨by rw [hw]; exact blk_far7 K8_a.out (fun e => by have := blk_lt K8_W.out; have := PC.out; omega) 0 _ _ _ _ _ _ _⟩; have HBb : Aside0 (Below W.heap.size W wb) := ⟨by rw [hw]; exact below_set7 HBa.out PC.out 0 _ _ _ _ _ _ _⟩; have HKb : Aside0 (KeepsOthers W wb) := ⟨by rw [hw]; exact HKa.out.trans (KeepsOthers.set7 gc 0 _ _ _ _ _ _ _)⟩; clear r0 r1 r2 r3 r4 r5 r6 z0 z1 z2 z3 z4 z5 z6 x0 x1 x2 x3 x4 x5 x6 KC_a KX_a K3_a K4_a K5_a K6_a K8_a HBa HKa; have cx_ : wb.cell? ⟨Bx, 0, none⟩ = some (.int .i64 (xn : Int)) := (blk_cell KX_b.out 0).trans rfl; obtain ⟨cg_, cb_⟩ := c2 K3_b; have c8_ : wb.cell? ⟨g8, 0, none⟩ = some (.slice (some ⟨go, 0, none⟩) l.length co) := (blk_cell K8_b.out 0).trans rfl; obtain ⟨y0, y1, y2, y3, y4, y5, y6⟩ := c7 KC_b; clear hw) | (refine ⟨trivial, ?_⟩; gi_at_call 48; refine (CallsIn.inRound lr (round_in Fence.wide _ trivial rfl (bn : Int) (mn : Int) wb)).mono ?_; rintro e wc ⟨rfl, hwc⟩; have KF2 : Aside0 (wc.heap[wb.heap.size]? = some (.cells #[.int .i64 (bn : Int)] 3 (0, 0))) := ⟨by rw [hwc]; first | done | exact blk_alloc (blk_new wb _) _⟩; have KN2 : Aside0 (wc.heap[wb.heap.size + 1]? = some (.cells #[.int .i64 (mn : Int)] 3 (0, 0))) := ⟨by rw [hwc]; first | done | exact blk_new2 _ _ _⟩; have hb : Below wb.heap.size wb wc := (by rw [hwc]; first | done | exact below_alloc (below_alloc (Below.refl _ _) _) _); have hk : KeepsOthers wb wc := (by rw [hwc]; first | done | exact (KeepsOthers.alloc _ _).trans (KeepsOthers.alloc _ _)); have KC_c := Aside0.mk (blk_below KC_b.out hb); have KX_c := Aside0.mk (blk_below KX_b.out hb); have K3_c := Aside0.mk (blk_below K3_b.out hb); have K4_c := Aside0.mk (blk_below K4_b.out hb); have K5_c := Aside0.mk (blk_below K5_b.out hb); have K6_c := Aside0.mk (blk_below K6_b.out hb); have K8_c := Aside0.mk (blk_below K8_b.out hb); have HBc := Aside0.mk (HBb.out.trans (hb.mono HBb.out.size)); have HKc := Aside0.mk (HKb.out.trans hk); have SZc := Aside0.mk hb.size; clear hb hk hwc KC_b KX_b K3_b K4_b K5_b K6_b K8_b HBb HKb cx_ cg_ cb_ c8_ y0 y1 y2 y3 y4 y5 y6))
   have hr' : wc.heap[lr]? = some (.loop r) := (HBc.out.block lr (Array.getElem?_eq_some_iff.1 HR.out).1).trans HR.out
   have hcN2 : wc.cell? ⟨wb.heap.size + 1, 0, none⟩ = some (.int .i64 (mn : Int)) := (blk_cell KN2.out 0).trans rfl
   have hcF2 : wc.cell? ⟨wb.heap.size, 0, none⟩ = some (.int .i64 (bn : Int)) := (blk_cell KF2.out 0).trans rfl
   have hlN2 := blk_lt KN2.out
   have hmn_ := HMN.out
   have hrn_ := HRN.out
   have hb1_ := HRY.out.b1
   have hb0_ := HRY.out.b0
   have hr1_ := HRY.out.r1
   have hbn_ : (bn : Int) < y.f1 := (by have := HGB.out.2; rw [← HXG.out, HXY.out] at this; exact this)
   have hfree : freeAt l (gn : Int) (bn : Int) (xn : Int) = (roundL bn mn).find? (fun t => !y.f5.contains t) := by
    unfold freeAt freeC
    rw [HXY.out, if_pos (by rw [HXG.out]), HMN.out]
    rfl
   have HFR := Aside0.mk hfree
   refine wpIn_rangeFunc_ownN (l₀ := lr) (r₀ := r) rfl hr' (by omega) (gf := 73) (lb := #[.pointer (some ⟨wb.heap.size + 1, 0, none⟩), .pointer (some ⟨wb.heap.size, 0, none⟩)]) rfl trivial (enters_of Try.func73 (by kernel_rfl) rfl)
    ((round_stops Fence.wide 9 trivial rfl (by omega) (wb.heap.size + 1) wb.heap.size wc.heap.size bn mn (by omega) (by omega) wc (by omega) (by omega) (Nat.le_refl _) hcN2 hcF2).inRound lr) belowK_t (belowK_b (Nat.le_refl _)) (Below.refl _ _) (fun _ => rfl)
    (fun pre' W' => (∀ t ∈ pre', y.f5.contains t.1 = true) ∧ (Below wc.heap.size wc W' ∧ KeepsFrom w9.heap.size W W'))
    (fun c pre' W' => (c = .ret ∧ ∃ (p : List (Rng mn)) (z : Rng mn), pre' = p ++ [z] ∧ (∀ t ∈ p, y.f5.contains t.1 = true) ∧ y.f5.contains z.1 = false ∧ (W'.heap[g4]? = some (.cells #[.slice (some ⟨go, 0, none⟩) l.length co] 22 (0, 0)) ∧ W'.heap[g5]? = some (.cells #[.int .i64 (xn : Int), .int .i64 z.1] 24 (0, 0)) ∧ W'.heap[g6]? = some (.cells #[.int .i64 0] 26 (0, 0)) ∧ Kd.S k42 42 W' w.heap.size (fun _ => True) (.slice (some ⟨go, 0, none⟩) l.length co) (l.set ((xn : Int) : Int).toNat (takeC (rd_T42 l (xn : Int)) z.1)) ∧ Below w.heap.size w W') ∧ KeepsFrom w9.heap.size W W'))
    (OwnFrom.and (ownFrom_pure _ _) (OwnFrom.and (ownFrom_below (Nat.le_refl _) (Nat.le_refl _)) (ownFrom_keepsFrom HBc.out.size)))
    (fun c => fun s A B row hs hg hr => by
     obtain ⟨e, p, z, h1, h2, h3, ⟨h4, h5, h6, h7, h8⟩, h9⟩ := hs
     exact ⟨e, p, z, h1, h2, h3, ⟨ownF_blk wc.heap.size g4 22 (fun (_ : Unit) => #[.slice (some ⟨go, 0, none⟩) l.length co]) () A B row h4 hg hr, ownF_blk wc.heap.size g5 24 (fun (_ : Unit) => #[.int .i64 (xn : Int), .int .i64 z.1]) () A B row h5 hg hr, ownF_blk wc.heap.size g6 26 (fun (_ : Unit) => #[.int .i64 0]) () A B row h6 hg hr, ownF_S wc.heap.size w.heap.size _ (fun (_ : Unit) => l.set (xn : Int).toNat (takeC (rd_T42 l (xn : Int)) z.1)) () A B row h7 hg hr, ownFrom_below (Nat.le_refl _) (Nat.le_trans HB9.out.size (Nat.le_trans HBW.out.size HBc.out.size)) () A B row h8 hg hr⟩, ownFrom_keepsFrom HBc.out.size () A B row h9 hg hr⟩)
    ⟨by simp, Below.refl _ _, HKc.out.from _⟩
    (fun z a'' _ => a'' = { tmps := #[.slice A0 l.length c0, .agg #[.int .i64 (gn : Int), .int .i64 (bn : Int)], undef, .pointer (some ⟨g3, 0, none⟩), .pointer (some ⟨g4, 0, none⟩), .pointer (some ⟨g5, 0, none⟩), .pointer (some ⟨g6, 0, none⟩), .int .i64 0, .pointer (some ⟨g8, 0, none⟩), .pointer (some ⟨Bx, 0, none⟩), .pointer (some ⟨gc, 0, none⟩), .int .i64 (bn : Int), .int .i64 z.1, undef, undef, .slice A0 l.length c0, .agg #[.int .i64 (gn : Int), .int .i64 (bn : Int)], .int .i64 0, .int .i64 0, .bool false, undef, undef, .slice A0 l.length c0, .slice (some ⟨go, 0, none⟩) l.length co, .pointer (some ⟨g3, 0, none⟩), .int .i64 (gn : Int), .slice A0 l.length c0, .int .i64 (l.length : Int), .func (.func 73) #[] #[.pointer (some ⟨sF + 1, 0, none⟩), .pointer (some ⟨sF, 0, none⟩)], .int .i64 (xn : Int), .slice (some ⟨go, 0, none⟩) l.length co, .int .i64 (xn : Int), .pointer (some ⟨go, xn * 7, none⟩), .agg #[.int .i64 y.f0, .int .i64 (mn : Int), .int .i64 y.f2, .int .i64 y.f3, .int .i64 (rn : Int), .slice A5 y.f5.length c5, .slice A6 y.f6.length c6], .pointer (some ⟨gc, 4, none⟩), .int .i64 (rn : Int), .int .i64 (xn : Int), .pointer (some ⟨g3, 0, none⟩), .int .i64 (gn : Int), .bool true, .pointer (some ⟨g3, 1, none⟩), .int .i64 (bn : Int), .int .i64 (bn : Int), .pointer (some ⟨gc, 1, none⟩), .int .i64 (mn : Int), .func (.func 73) #[] #[.pointer (some ⟨wb.heap.size + 1, 0, none⟩), .pointer (some ⟨wb.heap.size, 0, none⟩)], .int .i64 z.1, undef, undef, undef, undef, undef, undef, undef, undef, undef, undef, undef, undef, undef, undef, undef, undef, undef, undef, undef, undef, undef, undef, undef, undef, undef, undef, undef], defers := [] })
    (fun _ _ _ _ _ _ hs _ _ => hs)
    ?assign2h ?body2h ?done2h ?stop2h
   case assign2h =>
    rintro l2 pre' z W' K hi hK
    gi_wp2
    exact hK _ _ (KeepsFrom.refl _ _) (Below.refl _ _) hi rfl
   case body2h =>
    rintro l2 pre' z a'' W' _ _ ⟨hq, hBW2, hKF⟩ rfl _
    obtain ⟨z, hz0, hz1⟩ := z
    have KC_2 := Aside0.mk (blk_below KC_c.out hBW2)
    have c5_ : W'.cell? ⟨gc, 5, none⟩ = some (.slice A5 y.f5.length c5) := (blk_cell KC_2.out 5).trans rfl
    have hBWW : Below W.heap.size W W' := HBc.out.trans (hBW2.mono HBc.out.size)
    have hC5 := Kd.C_below G5.out hBWW
    have hup := (rise2_all HRY.out.u).2
    have hul := HRY.out.ulen
    have HQ := Aside0.mk hq
    have HBW2 := Aside0.mk hBW2
    have HKF := Aside0.mk hKF
    have HBWW := Aside0.mk hBWW
    cases hcz : y.f5.contains z with
    | true =>
     have hins := insert_has A5 c5 y.f5 z W' hC5 L5.out hup (by omega) hcz
     have HCZ := Aside0.mk hcz
     clear hq hBW2 hKF hBWW hC5 hup hul hcz hr' hcN2 hcF2 hlN2 hmn_ hrn_ hb1_ hb0_ hr1_ hfree hbn_
     gi_wp2_with (refine ⟨trivial, ?_⟩; gi_at_call 49; refine (CallsIn.inRound l2 (CallsIn.inRound lr (callsIn_wide.2 hins))).mono ?_; rintro e w2 ⟨rfl, hw2⟩; have HW2 := Aside0.mk hw2; clear hw2)
     obtain ⟨nd, rfl⟩ := HW2.out
     have hbd : Below W'.heap.size W' (W'.drewN nd) := pw_below_drewN (Below.refl _ _) nd
     refine ⟨keeps_below hbd, hbd.mono HBW2.out.size, ⟨fun t ht => ?_, HBW2.out.trans (hbd.mono HBW2.out.size), HKF.out.trans (keeps_below hbd)⟩⟩
     rcases List.mem_append.1 ht with ht | ht
     ·exact HQ.out t ht
     ·obtain rfl := List.mem_singleton.1 ht
      exact HCZ.out
    | false =>
     have hins := insert_new A5 c5 y.f5 z W' hC5 L5.out hup (by omega) hcz
     have hpl := putAt_len y.f5 (ixOf y.f5 z) z
     obtain ⟨P, hP⟩ : ∃ P, putAt y.f5 (ixOf y.f5 z) z = P := ⟨_, rfl⟩
     rw [hP] at hins hpl
     have HP := Aside0.mk hP
     have HPL := Aside0.mk hpl
     have HCZ := Aside0.mk hcz
     obtain ⟨ro, hro⟩ : ∃ ro : Int, (z + 1) % (mn : Int) = ro := ⟨_, rfl⟩
     have hro2 : Int.tmod (z + 1) (mn : Int) = ro := by rw [Int.tmod_eq_emod_of_nonneg (by omega)]; exact hro
     have HRO := Aside0.mk hro
     have HZ := Aside0.mk (show 0 ≤ z ∧ z < (mn : Int) from ⟨hz0, hz1⟩)
     have HMN2 := Aside0.mk (show 1 ≤ mn ∧ mn ≤ 64 from by omega)
     have hne : ((mn : Int) == 0) = false := by rw [beq_eq_false_iff_ne]; omega
     have hne2 : ¬ (mn : Int) = 0 := by omega
     have hwz : IntKind.i64.wrap (z + 1) = z + 1 := IntWalk.i64_in _ (by omega)
     have hwz2 : wrap64 (z + 1) = z + 1 := by unfold wrap64; omega
     have hne3 : ¬ mn = 0 := by omega
     have HNE := Aside0.mk (And.intro hne3 (And.intro hne (And.intro hne2 (And.intro hwz (And.intro hwz2 hro2)))))
     clear hq hBW2 hKF hBWW hC5 hup hul hcz hr' hcN2 hcF2 hlN2 hmn_ hrn_ hb1_ hb0_ hr1_ hfree hro hro2 hpl hP hne hne2 hne3 hwz hwz2 hbn_
     gi_wp2_with (refine ⟨trivial, ?_⟩; gi_at_call 49; refine (CallsIn.inRound l2 (CallsIn.inRound lr (callsIn_wide.2 hins))).mono ?_; rintro e w2 ⟨v, rfl, hR, hb⟩; obtain ⟨gi, ci, rfl, _, _, _⟩ := Kd.R_form hR (by have := HPL.out; omega); have HR2 := Aside0.mk hR; have HB2_ := Aside0.mk hb; clear hR hb hins c5_)
     have hb2 : Below W.heap.size W w2 := HBWW.out.trans (HB2_.out.mono HBWW.out.size)
     have hbc : Below wc.heap.size wc w2 := HBW2.out.trans (HB2_.out.mono HBW2.out.size)
     have KC_3 := Aside0.mk (blk_below KC_2.out HB2_.out)
     have KX_3 := Aside0.mk (blk_below KX_c.out hbc)
     have K3_3 := Aside0.mk (blk_below K3_c.out hbc)
     have K4_3 := Aside0.mk (blk_below K4_c.out hbc)
     have K5_3 := Aside0.mk (blk_below K5_c.out hbc)
     have K6_3 := Aside0.mk (blk_below K6_c.out hbc)
     have K8_3 := Aside0.mk (blk_below K8_c.out hbc)
     have HS3 := Aside0.mk (Kd.S_below HSW.out hb2)
     have HBW3 := Aside0.mk hb2
     have HKF3 := Aside0.mk (HKF.out.trans (keeps_below HB2_.out))
     have HKO3 := Aside0.mk (keeps_below (B := 0) HB2_.out)
     have PX : Aside0 (gc ≠ Bx ∧ gc ≠ g3 ∧ gc ≠ g4 ∧ gc ≠ g5 ∧ gc ≠ g6 ∧ gc ≠ g8) := ⟨by have h0_ := PC.out; have h1_ := blk_lt KX_W.out; have h2_ := blk_lt K3_W.out; have h3_ := blk_lt K4_W.out; have h4_ := blk_lt K5_W.out; have h5_ := blk_lt K6_W.out; have h6_ := blk_lt K8_W.out; omega⟩
     have PG : Aside0 (w5.heap.size ≤ go ∧ go < W.heap.size) := ⟨⟨Kd.S_base HSW.out go rfl, Kd.S_lt HSW.out go rfl⟩⟩
     have m1_ : w2.cell? ⟨gc, 1, none⟩ = some (.int .i64 (mn : Int)) := (blk_cell KC_3.out 1).trans rfl
     have m4_ : w2.cell? ⟨gc, 4, none⟩ = some (.int .i64 (rn : Int)) := (blk_cell KC_3.out 4).trans rfl
     have m5_ : w2.cell? ⟨gc, 5, none⟩ = some (.slice A5 y.f5.length c5) := (blk_cell KC_3.out 5).trans rfl
     have u4_ := blk_frozen KC_3.out 4
     have u5_ := blk_frozen KC_3.out 5
     obtain ⟨hne3, hne, hne2, hwz, hwz2, hro2⟩ := HNE.out
     have hro := HRO.out
     clear hb2 hbc
     refine Rnd.start_in (lr := l2) (k := 10) (S := fun w' => w'.cell? ⟨gc, 1, none⟩ = some (.int .i64 (mn : Int))) (ds := [7, 9]) #[false, false, false, false, false, false, false, false, false, false] (by kernel_rfl) (by kernel_rfl) rfl rfl m1_ (fun hHeld => ?_); refine with_tabW tk_tab15 tk_bits15 (fun HT_ HW_ => ?_)
     refine pure_ (i := 0) (N := some 56) (v := ?_) (a' := ?_) #[true, false, false, false, false, false, false, false, false, false] rfl rfl (any_of HT_.out (by kernel_rfl)) (fun _ _ _ h => h) (Or.inl ⟨by rfl, ?_⟩) ?_ ?_
     rotate_left
     ·intro w'
      go_simp
      with_reducible rfl
     rotate_left
     ·go_simp
      rfl
     refine pure_ (i := 1) (N := some 57) (v := ?_) (a' := ?_) #[true, true, false, false, false, false, false, false, false, false] rfl rfl (any_of HT_.out (by kernel_rfl)) (fun _ _ _ h => h) (Or.inl ⟨by rfl, ?_⟩) ?_ ?_
     rotate_left
     ·intro w'
      go_simp
      with_reducible rfl
     rotate_left
     ·go_simp
      rfl
     refine pure_ (i := 2) (N := some 58) (v := ?_) (a' := ?_) #[true, true, true, false, false, false, false, false, false, false] rfl rfl (any_of HT_.out (by kernel_rfl)) (fun _ _ _ h => h) (Or.inl ⟨by rfl, ?_⟩) ?_ ?_
     rotate_left
     ·intro w'
      go_simp
      with_reducible rfl
     rotate_left
     ·simp only [Act.put, List.setIfInBounds_toArray, List.set_cons_zero, List.set_cons_succ, i64_w]
      rfl
     refine pure_ (i := 3) (N := some 59) (v := ?_) (a' := ?_) #[true, true, true, true, false, false, false, false, false, false] rfl rfl (any_of HT_.out (by kernel_rfl)) (fun _ _ _ h => h) (Or.inl ⟨by rfl, ?_⟩) ?_ ?_
     rotate_left
     ·intro w'
      go_simp
      with_reducible rfl
     rotate_left
     ·go_simp
      rfl
     refine take_ (i := 4) (N := some 60) (v := ?_) (a' := ?_) #[true, true, true, true, true, false, false, false, false, false] rfl rfl (take_ofW HT_.out HW_.out (by kernel_rfl)) (fun _ _ _ h => h) (Or.inl ⟨by rfl, ?_⟩) hHeld ?_ ?_
     rotate_left
     ·rintro w' s0
      go_simp
      with_reducible rfl
     rotate_left
     ·go_simp
      rfl
     refine pure_ (i := 5) (N := some 61) (v := ?_) (a' := ?_) #[true, true, true, true, true, true, false, false, false, false] rfl rfl (any_of HT_.out (by kernel_rfl)) (fun _ _ _ h => h) (Or.inl ⟨by rfl, ?_⟩) ?_ ?_
     rotate_left
     ·intro w'
      go_simp
      with_reducible rfl
     rotate_left
     ·simp only [Act.put, List.setIfInBounds_toArray, List.set_cons_zero, List.set_cons_succ, i64_w]
      rfl
     refine pure_ (i := 6) (N := some 62) (v := ?_) (a' := ?_) #[true, true, true, true, true, true, true, false, false, false] rfl rfl (any_of HT_.out (by kernel_rfl)) (fun _ _ _ h => h) (Or.inl ⟨by rfl, ?_⟩) ?_ ?_
     rotate_left
     ·intro w'
      go_simp
      with_reducible rfl
     rotate_left
     ·go_simp
      rfl
     refine last_ (i := 7) (N := none) #[true, true, true, true, true, true, true, true, false, false] rfl rfl (one_of HT_.out (by kernel_rfl)) (by decide) (fun K hK => ?_)
     refine skip_ (w1 := ?_) (by rfl) rfl ?_ ?_
     rotate_left
     ·go_simp
      rfl
     refine hK.out _ _ ?_
     clear hK K
     refine pure_ (i := 8) (N := some 63) (v := ?_) (a' := ?_) #[true, true, true, true, true, true, true, true, true, false] rfl rfl (any_of HT_.out (by kernel_rfl)) (fun _ _ _ h => h) (Or.inl ⟨by rfl, ?_⟩) ?_ ?_
     rotate_left
     ·intro w'
      go_simp
      with_reducible rfl
     rotate_left
     ·go_simp
      rfl
     refine last_ (i := 9) (N := none) #[true, true, true, true, true, true, true, true, true, true] rfl rfl (one_of HT_.out (by kernel_rfl)) (by decide) (fun K hK => ?_)
     refine skipE_ (w1 := ((w2.drew.setCell ⟨gc, 5, none⟩ (.slice (some ⟨gi, 0, none⟩) P.length ci)).setCell ⟨gc, 4, none⟩ (.int .i64 ro))) (by rfl) rfl (by first | (go_simp; done) | (go_simp; rfl)) (fun w3 hw => ?_)
     have KC_4 : Aside0 (w3.heap[gc]? = some (.cells #[.int .i64 y.f0, .int .i64 (mn : Int), .int .i64 y.f2, .int .i64 y.f3, .int .i64 ro, .slice (some ⟨gi, 0, none⟩) P.length ci, .slice A6 y.f6.length c6] 42 (0, 0))) := ⟨by rw [hw]; exact blk_put (blk_put (blk_drew KC_3.out) 5 (.slice (some ⟨gi, 0, none⟩) P.length ci) rfl) 4 (.int .i64 ro) rfl⟩
     have KX_4 : Aside0 (w3.heap[Bx]? = some (.cells #[.int .i64 (xn : Int)] 3 (0, 0))) := ⟨by rw [hw]; exact blk_far (blk_far (blk_drew KX_3.out) (p := ⟨gc, 5, none⟩) (fun e => PX.out.1 e.symm) _) (p := ⟨gc, 4, none⟩) (fun e => PX.out.1 e.symm) _⟩
     have K3_4 : Aside0 (w3.heap[g3]? = some (.cells #[.int .i64 (gn : Int), .int .i64 (bn : Int)] 24 (0, 0))) := ⟨by rw [hw]; exact blk_far (blk_far (blk_drew K3_3.out) (p := ⟨gc, 5, none⟩) (fun e => PX.out.2.1 e.symm) _) (p := ⟨gc, 4, none⟩) (fun e => PX.out.2.1 e.symm) _⟩
     have K4_4 : Aside0 (w3.heap[g4]? = some (.cells #[.slice none 0 0] 22 (0, 0))) := ⟨by rw [hw]; exact blk_far (blk_far (blk_drew K4_3.out) (p := ⟨gc, 5, none⟩) (fun e => PX.out.2.2.1 e.symm) _) (p := ⟨gc, 4, none⟩) (fun e => PX.out.2.2.1 e.symm) _⟩
     have K5_4 : Aside0 (w3.heap[g5]? = some (.cells #[.int .i64 0, .int .i64 0] 24 (0, 0))) := ⟨by rw [hw]; exact blk_far (blk_far (blk_drew K5_3.out) (p := ⟨gc, 5, none⟩) (fun e => PX.out.2.2.2.1 e.symm) _) (p := ⟨gc, 4, none⟩) (fun e => PX.out.2.2.2.1 e.symm) _⟩
     have K6_4 : Aside0 (w3.heap[g6]? = some (.cells #[.int .i64 0] 26 (0, 0))) := ⟨by rw [hw]; exact blk_far (blk_far (blk_drew K6_3.out) (p := ⟨gc, 5, none⟩) (fun e => PX.out.2.2.2.2.1 e.symm) _) (p := ⟨gc, 4, none⟩) (fun e => PX.out.2.2.2.2.1 e.symm) _⟩
     have K8_4 : Aside0 (w3.heap[g8]? = some (.cells #[.slice (some ⟨go, 0, none⟩) l.length co] 22 (0, 0))) := ⟨by rw [hw]; exact blk_far (blk_far (blk_drew K8_3.out) (p := ⟨gc, 5, none⟩) (fun e => PX.out.2.2.2.2.2 e.symm) _) (p := ⟨gc, 4, none⟩) (fun e => PX.out.2.2.2.2.2 e.symm) _⟩
     have HS4 : Aside0 (Kd.S k42 42 w3 w5.heap.size (fun k => k < W'.heap.size) (.slice (some ⟨go, 0, none⟩) l.length co) l) := ⟨by rw [hw]; exact Kd.S_far (Kd.S_far (Kd.S_drew (Kd.S_mono (Kd.S_below (Kd.S_mono (Kd.S_bound HSW.out) (fun k hk => (⟨Nat.lt_of_lt_of_le hk.2.2.1 HBWW.out.size, (fun e => by have := hk.2.2.1; have := PC.out; omega : k ≠ gc)⟩ : k < W'.heap.size ∧ k ≠ gc))) HBW3.out) (fun _ h => h))) (p := ⟨gc, 5, none⟩) (fun k hk => hk.2) _) (p := ⟨gc, 4, none⟩) (fun k hk => hk.2) _ |> fun h => Kd.S_mono h (fun k hk => hk.1)⟩
     have HR4 : Aside0 (Kd.R (Kd.int .i64) 3 w3 W'.heap.size (fun _ => True) (.slice (some ⟨gi, 0, none⟩) P.length ci) P) := ⟨by rw [hw]; exact Kd.R_mono (Kd.R_far (Kd.R_far (Kd.R_drew (Kd.R_mono (Kd.R_bound HR2.out) (fun k hk => (fun e => by have h1_ := hk.2.1; have h2_ := blk_lt KC_2.out; omega : k ≠ gc)))) (p := ⟨gc, 5, none⟩) (fun _ h => h) _) (p := ⟨gc, 4, none⟩) (fun _ h => h) _) (fun _ _ => trivial)⟩
     have HBW4 : Aside0 (Below W.heap.size W w3) := ⟨by rw [hw]; exact ((below_drew HBW3.out).setCell (p := ⟨gc, 5, none⟩) PC.out _).setCell (p := ⟨gc, 4, none⟩) PC.out _⟩
     have HKF4 : Aside0 (KeepsFrom w9.heap.size W w3) := ⟨by rw [hw]; exact HKF3.out.trans ((((KeepsOthers.drew _).trans (KeepsOthers.setCell _ _ _)).trans (KeepsOthers.setCell _ _ _)).from _)⟩
     have HKO4 : Aside0 (KeepsFrom 0 W' w3) := ⟨by rw [hw]; exact HKO3.out.trans ((((KeepsOthers.drew _).trans (KeepsOthers.setCell _ _ _)).trans (KeepsOthers.setCell _ _ _)).from _)⟩
     clear m1_ m4_ m5_ u4_ u5_ hne hne2 hne3 hwz hwz2 hro2 hro KC_2 KC_3 KX_3 K3_3 K4_3 K5_3 K6_3 K8_3 HS3 HBW3 HKF3 HR2 KC_c KX_c K3_c K4_c K5_c K6_c K8_c
     clear hw
     refine hK.out _ _ ?_
     clear hK K
     refine done_ (done_of HT_.out (by kernel_rfl)) ?_
     simp only [Rnd.shutQ]
     gi_wp2
     have s0 : w3.cell? ⟨g8, 0, none⟩ = some (.slice (some ⟨go, 0, none⟩) l.length co) := (blk_cell K8_4.out 0).trans rfl
     have s1 : w3.cell? ⟨Bx, 0, none⟩ = some (.int .i64 (xn : Int)) := (blk_cell KX_4.out 0).trans rfl
     obtain ⟨s2, s3, s4, s5, s6, s7, s8⟩ := c7 KC_4
     have p1_ : (0 ≤ (xn : Int)) = True := p1
     have hP3 := HPL.out
     have hu5_ := HRY.out.ulen
     have hn6_ := HRY.out.nlen
     have hb_ := HRY.out.b1
     have hb0_ := HRY.out.b0
     have hmn_ := HMN.out
     have hm5 : wrap64 ((mn : Int) - (P.length : Int)) = (mn : Int) - ((y.f5.length : Int) + 1) := by unfold wrap64; omega
     have hm6 : wrap64 (16 - (y.f6.length : Int)) = 16 - (y.f6.length : Int) := by unfold wrap64; omega
     have hrc := fun W_ => recount_calls y.f0 (mn : Int) y.f2 y.f3 ro (some ⟨gi, 0, none⟩) P.length ci A6 y.f6.length c6 W_
     rw [hm5, hm6] at hrc
     obtain ⟨k5, hk5⟩ : ∃ k5, (mn : Int) - ((y.f5.length : Int) + 1) = k5 := ⟨_, rfl⟩
     obtain ⟨k6, hk6⟩ : ∃ k6, 16 - (y.f6.length : Int) = k6 := ⟨_, rfl⟩
     rw [hk5, hk6] at hrc
     have HM5 := Aside0.mk hk5
     have HM6 := Aside0.mk hk6
     clear hP3 hu5_ hn6_ hb_ hb0_ hmn_ hm5 hm6 hk5 hk6
     have HTK : Aside0 ((⟨y.f0, (mn : Int), k5, k6, ro, P, (l.getD (xn : Int).toNat z42).f6⟩ : S42) = takeC (rd_T42 l (xn : Int)) z) := ⟨by rw [Int.toNat_natCast, HGD.out, HXY.out]; unfold takeC; rw [HMN.out, HRO.out, HP.out, HM5.out, HM6.out]⟩
     refine Rnd.start_in (lr := l2) (k := 6) (S := fun w' => w'.cell? ⟨g8, 0, none⟩ = some (.slice (some ⟨go, 0, none⟩) l.length co) ∧ w'.cell? ⟨Bx, 0, none⟩ = some (.int .i64 (xn : Int)) ∧ w'.cell? ⟨gc, 0, none⟩ = some (.int .i64 y.f0) ∧ w'.cell? ⟨gc, 1, none⟩ = some (.int .i64 (mn : Int)) ∧ w'.cell? ⟨gc, 2, none⟩ = some (.int .i64 y.f2) ∧ w'.cell? ⟨gc, 3, none⟩ = some (.int .i64 y.f3) ∧ w'.cell? ⟨gc, 4, none⟩ = some (.int .i64 ro) ∧ w'.cell? ⟨gc, 5, none⟩ = some (.slice (some ⟨gi, 0, none⟩) P.length ci) ∧ w'.cell? ⟨gc, 6, none⟩ = some (.slice A6 y.f6.length c6)) (ds := [5]) #[false, false, false, false, false, false] (by kernel_rfl) (by kernel_rfl) rfl rfl ⟨s0, s1, s2, s3, s4, s5, s6, s7, s8⟩ (fun hHeld => ?_); refine with_tabW tk_tab16 tk_bits16 (fun HT_ HW_ => ?_)
     refine take_ (i := 0) (N := some 64) (v := ?_) (a' := ?_) #[true, false, false, false, false, false] rfl rfl (take_ofW HT_.out HW_.out (by kernel_rfl)) (fun _ _ _ h => h) (Or.inl ⟨by rfl, ?_⟩) hHeld ?_ ?_
     rotate_left
     ·rintro w' ⟨s0, s1, s2, s3, s4, s5, s6, s7, s8⟩
      go_simp
      with_reducible rfl
     rotate_left
     ·go_simp
      rfl
     refine take_ (i := 1) (N := some 65) (v := ?_) (a' := ?_) #[true, true, false, false, false, false] rfl rfl (take_ofW HT_.out HW_.out (by kernel_rfl)) (fun _ _ _ h => h) (Or.inl ⟨by rfl, ?_⟩) hHeld ?_ ?_
     rotate_left
     ·rintro w' ⟨s0, s1, s2, s3, s4, s5, s6, s7, s8⟩
      go_simp
      with_reducible rfl
     rotate_left
     ·go_simp
      rfl
     refine take_ (i := 2) (N := some 66) (v := ?_) (a' := ?_) #[true, true, true, false, false, false] rfl rfl (take_ofW HT_.out HW_.out (by kernel_rfl)) (fun _ _ _ h => h) (Or.inl ⟨by rfl, ?_⟩) hHeld ?_ ?_
     rotate_left
     ·rintro w' ⟨s0, s1, s2, s3, s4, s5, s6, s7, s8⟩
      go_simp
      with_reducible rfl
     rotate_left
     ·go_simp
      rfl
     refine one_ (i := 3) (N := some 67) #[true, true, true, true, false, false] rfl rfl (one_of HT_.out (by kernel_rfl)) (by decide) (fun K hK => ?_)
     refine goes_ Try.func50 (by kernel_rfl) rfl #[.agg #[.int .i64 y.f0, .int .i64 (mn : Int), .int .i64 y.f2, .int .i64 y.f3, .int .i64 ro, .slice (some ⟨gi, 0, none⟩) P.length ci, .slice A6 y.f6.length c6]] (by rfl) rfl rfl (by (try simp only [List.map_toArray, List.map_cons, List.map_nil]); rfl) ?_
     refine (hrc _).mono ?_
     rintro e w4_ ⟨rfl, hb⟩
     have HB34 : Aside0 (Below w3.heap.size w3 w4_) := ⟨below_step (below_drew (Below.refl _ _)) hb⟩
     refine ⟨_, rfl, ?_⟩
     obtain ⟨t0, t1, t2, t3, t4, t5, t6, t7, t8⟩ := hHeld
     have a0 := pw_cell_below hb t0
     have a1 := pw_cell_below hb t1
     have a2 := pw_cell_below hb t2
     have a3 := pw_cell_below hb t3
     have a4 := pw_cell_below hb t4
     have a5 := pw_cell_below hb t5
     have a6 := pw_cell_below hb t6
     have a7 := pw_cell_below hb t7
     have a8 := pw_cell_below hb t8
     clear t0 t1 t2 t3 t4 t5 t6 t7 t8 hb
     refine hK.out _ _ ⟨a0, a1, a2, a3, a4, a5, a6, a7, a8⟩ (fun hHeld => ?_)
     clear hK K
     refine norm_ (a' := ?_) ?_ ?_
     rotate_left
     ·show Act.put _ (some 67) _ = _
      go_simp
      rfl
     refine pure_ (i := 4) (N := some 68) (v := ?_) (a' := ?_) #[true, true, true, true, true, false] rfl rfl (any_of HT_.out (by kernel_rfl)) (fun _ _ _ h => h) (Or.inl ⟨by rfl, ?_⟩) ?_ ?_
     rotate_left
     ·intro w'
      go_simp
      with_reducible rfl
     rotate_left
     ·go_simp
      rfl
     refine last_ (i := 5) (N := none) #[true, true, true, true, true, true] rfl rfl (one_of HT_.out (by kernel_rfl)) (by decide) (fun K hK => ?_)
     have hS5 := Kd.S_below HS4.out HB34.out
     obtain ⟨_, ce, _, hM, hcc, hfr, _, _⟩ := Kd.S_elem hS5 z42 (xn : Int) (by omega) (by have := HXL.out; omega)
     simp only [Int.toNat_natCast] at hM hcc hfr
     obtain ⟨e5, e6, rfl, _, _⟩ := k42_openM hM
     have x0 : w4_.cell? ⟨go, xn * 7, none⟩ = some (.int .i64 (l.getD xn z42).f0) := hcc 0 _ rfl
     have x1 : w4_.cell? ⟨go, xn * 7 + 1, none⟩ = some (.int .i64 (l.getD xn z42).f1) := hcc 1 _ rfl
     have x2 : w4_.cell? ⟨go, xn * 7 + 2, none⟩ = some (.int .i64 (l.getD xn z42).f2) := hcc 2 _ rfl
     have x3 : w4_.cell? ⟨go, xn * 7 + 3, none⟩ = some (.int .i64 (l.getD xn z42).f3) := hcc 3 _ rfl
     have x4 : w4_.cell? ⟨go, xn * 7 + 4, none⟩ = some (.int .i64 (l.getD xn z42).f4) := hcc 4 _ rfl
     have x5 : w4_.cell? ⟨go, xn * 7 + 5, none⟩ = some (e5) := hcc 5 _ rfl
     have x6 : w4_.cell? ⟨go, xn * 7 + 6, none⟩ = some (e6) := hcc 6 _ rfl
     have z0 : w4_.frozen? ⟨go, xn * 7, none⟩ = false := hfr 0
     have z1 : w4_.frozen? ⟨go, xn * 7 + 1, none⟩ = false := hfr 1
     have z2 : w4_.frozen? ⟨go, xn * 7 + 2, none⟩ = false := hfr 2
     have z3 : w4_.frozen? ⟨go, xn * 7 + 3, none⟩ = false := hfr 3
     have z4 : w4_.frozen? ⟨go, xn * 7 + 4, none⟩ = false := hfr 4
     have z5 : w4_.frozen? ⟨go, xn * 7 + 5, none⟩ = false := hfr 5
     have z6 : w4_.frozen? ⟨go, xn * 7 + 6, none⟩ = false := hfr 6
     refine skipE_ (w1 := (((((((w4_.setCell ⟨go, xn * 7, none⟩ (.int .i64 y.f0)).setCell ⟨go, xn * 7 + 1, none⟩ (.int .i64 (mn : Int))).setCell ⟨go, xn * 7 + 2, none⟩ (.int .i64 k5)).setCell ⟨go, xn * 7 + 3, none⟩ (.int .i64 k6)).setCell ⟨go, xn * 7 + 4, none⟩ (.int .i64 ro)).setCell ⟨go, xn * 7 + 5, none⟩ (.slice (some ⟨gi, 0, none⟩) P.length ci)).setCell ⟨go, xn * 7 + 6, none⟩ (.slice A6 y.f6.length c6))) (by rfl) rfl (by first | (go_simp; done) | (go_simp; rfl)) (fun w5_ hw => ?_)
     have hx6 : w4_.cell? ⟨go, (xn : Int).toNat * 7 + 6, none⟩ = some (.slice A6 y.f6.length c6) := (HX6.out w4_ (HBW4.out.trans (HB34.out.mono HBW4.out.size)))
     have HS6_ : Aside0 (Kd.S k42 42 w5_ w5.heap.size (fun _ => True) (.slice (some ⟨go, 0, none⟩) l.length co) (l.set (xn : Int).toNat (takeC (rd_T42 l (xn : Int)) z))) := ⟨by rw [hw]; have h_ := S_put5 (v6 := .slice A6 y.f6.length c6) (Kd.S_mono (Kd.S_below HS4.out HB34.out) (fun k hk e => by have h1_ := Kd.R_base HR4.out k e.symm; have h2_ : k < W'.heap.size := hk; omega)) (Kd.R_lower (Kd.R_below HR4.out HB34.out) (Nat.le_trans (Nat.le_of_lt (Nat.lt_of_le_of_lt PG.out.1 PG.out.2)) HBWW.out.size)) (xn : Int) (by omega) (by have := HXL.out; omega) hx6 y.f0 (mn : Int) k5 k6 ro; rw [HTK.out] at h_; exact h_⟩
     have KX_5 : Aside0 (w5_.heap[Bx]? = some (.cells #[.int .i64 (xn : Int)] 3 (0, 0))) := ⟨by rw [hw]; exact blk_far7 (blk_below KX_4.out HB34.out) (fun e => by have h_ := PGO.out; omega) (xn * 7) _ _ _ _ _ _ _⟩
     have K3_5 : Aside0 (w5_.heap[g3]? = some (.cells #[.int .i64 (gn : Int), .int .i64 (bn : Int)] 24 (0, 0))) := ⟨by rw [hw]; exact blk_far7 (blk_below K3_4.out HB34.out) (fun e => by have h_ := PGO.out; omega) (xn * 7) _ _ _ _ _ _ _⟩
     have K4_5 : Aside0 (w5_.heap[g4]? = some (.cells #[.slice none 0 0] 22 (0, 0))) := ⟨by rw [hw]; exact blk_far7 (blk_below K4_4.out HB34.out) (fun e => by have h_ := PGO.out; omega) (xn * 7) _ _ _ _ _ _ _⟩
     have K5_5 : Aside0 (w5_.heap[g5]? = some (.cells #[.int .i64 0, .int .i64 0] 24 (0, 0))) := ⟨by rw [hw]; exact blk_far7 (blk_below K5_4.out HB34.out) (fun e => by have h_ := PGO.out; omega) (xn * 7) _ _ _ _ _ _ _⟩
     have K6_5 : Aside0 (w5_.heap[g6]? = some (.cells #[.int .i64 0] 26 (0, 0))) := ⟨by rw [hw]; exact blk_far7 (blk_below K6_4.out HB34.out) (fun e => by have h_ := PGO.out; omega) (xn * 7) _ _ _ _ _ _ _⟩
     have K8_5 : Aside0 (w5_.heap[g8]? = some (.cells #[.slice (some ⟨go, 0, none⟩) l.length co] 22 (0, 0))) := ⟨by rw [hw]; exact blk_far7 (blk_below K8_4.out HB34.out) (fun e => by have h_ := PGO.out; omega) (xn * 7) _ _ _ _ _ _ _⟩
     have HBW5 : Aside0 (Below w.heap.size w w5_) := ⟨by rw [hw]; exact below_set7 (HB9.out.trans ((HBW.out.mono HB9.out.size).trans ((HBW4.out.mono (Nat.le_trans HB9.out.size HBW.out.size)).trans (HB34.out.mono (Nat.le_trans (Nat.le_trans HB9.out.size HBW.out.size) HBW4.out.size))))) (Nat.le_trans SZ5.out PG.out.1) (xn * 7) _ _ _ _ _ _ _⟩
     have HKF5 : Aside0 (KeepsFrom w9.heap.size W w5_) := ⟨by rw [hw]; exact (HKF4.out.trans (keeps_below HB34.out)).trans ((KeepsOthers.set7 go (xn * 7) _ _ _ _ _ _ _).from _)⟩
     have HKO5 : Aside0 (KeepsFrom 0 W' w5_) := ⟨by rw [hw]; exact (HKO4.out.trans (keeps_below HB34.out)).trans ((KeepsOthers.set7 go (xn * 7) _ _ _ _ _ _ _).from _)⟩
     clear hx6 hS5 hM hcc hfr x0 x1 x2 x3 x4 x5 x6 z0 z1 z2 z3 z4 z5 z6
     clear hw
     refine hK.out _ _ ?_
     clear hK K
     refine done_ (done_of HT_.out (by kernel_rfl)) ?_
     simp only [Rnd.shutQ]
     gi_wp2
     have s0 : w5_.cell? ⟨g8, 0, none⟩ = some (.slice (some ⟨go, 0, none⟩) l.length co) := (blk_cell K8_5.out 0).trans rfl
     have s1 : w5_.cell? ⟨Bx, 0, none⟩ = some (.int .i64 (xn : Int)) := (blk_cell KX_5.out 0).trans rfl
     have k4_ : w5_.cell? ⟨g4, 0, none⟩ = some (.slice none 0 0) := (blk_cell K4_5.out 0).trans rfl
     have f4_ := blk_frozen K4_5.out 0
     have k5_ : w5_.cell? ⟨g5, 0, none⟩ = some (.int .i64 0) := (blk_cell K5_5.out 0).trans rfl
     have f5_ := blk_frozen K5_5.out 0
     have k5a_ : w5_.cell? ⟨g5, 1, none⟩ = some (.int .i64 0) := (blk_cell K5_5.out 1).trans rfl
     have f5a_ := blk_frozen K5_5.out 1
     have k6_ : w5_.cell? ⟨g6, 0, none⟩ = some (.int .i64 0) := (blk_cell K6_5.out 0).trans rfl
     have f6_ := blk_frozen K6_5.out 0
     have n45 := D45.out
     have n46 := D46.out
     have n56 := D56.out
     have n54 := D45.out.symm
     have n64 := D46.out.symm
     have n65 := D56.out.symm
     refine Rnd.start_in (lr := l2) (k := 7) (S := fun w' => w'.cell? ⟨g8, 0, none⟩ = some (.slice (some ⟨go, 0, none⟩) l.length co) ∧ w'.cell? ⟨Bx, 0, none⟩ = some (.int .i64 (xn : Int))) (ds := [5, 6]) #[false, false, false, false, false, false, false] (by kernel_rfl) (by kernel_rfl) rfl rfl ⟨s0, s1⟩ (fun hHeld => ?_); refine with_tabW tk_tab17 tk_bits17 (fun HT_ HW_ => ?_)
     refine take_ (i := 0) (N := some 69) (v := ?_) (a' := ?_) #[true, false, false, false, false, false, false] rfl rfl (take_ofW HT_.out HW_.out (by kernel_rfl)) (fun _ _ _ h => h) (Or.inl ⟨by rfl, ?_⟩) hHeld ?_ ?_
     rotate_left
     ·rintro w' ⟨s0, s1⟩
      go_simp
      with_reducible rfl
     rotate_left
     ·go_simp
      rfl
     refine take_ (i := 1) (N := some 70) (v := ?_) (a' := ?_) #[true, true, false, false, false, false, false] rfl rfl (take_ofW HT_.out HW_.out (by kernel_rfl)) (fun _ _ _ h => h) (Or.inl ⟨by rfl, ?_⟩) hHeld ?_ ?_
     rotate_left
     ·rintro w' ⟨s0, s1⟩
      go_simp
      with_reducible rfl
     rotate_left
     ·go_simp
      rfl
     refine pure_ (i := 2) (N := some 71) (v := ?_) (a' := ?_) #[true, true, true, false, false, false, false] rfl rfl (any_of HT_.out (by kernel_rfl)) (fun _ _ _ h => h) (Or.inl ⟨by rfl, ?_⟩) ?_ ?_
     rotate_left
     ·intro w'
      go_simp
      with_reducible rfl
     rotate_left
     ·go_simp
      rfl
     refine pure_ (i := 3) (N := some 72) (v := ?_) (a' := ?_) #[true, true, true, true, false, false, false] rfl rfl (any_of HT_.out (by kernel_rfl)) (fun _ _ _ h => h) (Or.inl ⟨by rfl, ?_⟩) ?_ ?_
     rotate_left
     ·intro w'
      go_simp
      with_reducible rfl
     rotate_left
     ·go_simp
      rfl
     refine one_ (i := 4) (N := none) #[true, true, true, true, true, false, false] rfl rfl (one_of HT_.out (by kernel_rfl)) (by decide) (fun K hK => ?_)
     refine skip_ (w1 := ?_) (by rfl) rfl ?_ ?_
     rotate_left
     ·go_simp
      rfl
     refine hK.out _ _ ⟨(blk_cell (blk_drew (blk_far K8_5.out (p := ⟨g4, 0, none⟩) (fun e => D48.out e.symm) _)) 0).trans rfl, (blk_cell (blk_drew (blk_far KX_5.out (p := ⟨g4, 0, none⟩) (blk_ne KX_5.out K4_5.out (by decide)) _)) 0).trans rfl⟩ (fun hHeld => ?_)
     clear hK K
     refine last_ (i := 5) (N := none) #[true, true, true, true, true, true, false] rfl rfl (one_of HT_.out (by kernel_rfl)) (by decide) (fun K hK => ?_)
     refine skip_ (w1 := ?_) (by rfl) rfl ?_ ?_
     rotate_left
     ·go_simp
      rfl
     refine hK.out _ _ ?_
     clear hK K
     refine last_ (i := 6) (N := none) #[true, true, true, true, true, true, true] rfl rfl (one_of HT_.out (by kernel_rfl)) (by decide) (fun K hK => ?_)
     refine skipE_ (w1 := ((((w5_.drew.setCell ⟨g4, 0, none⟩ (.slice (some ⟨go, 0, none⟩) l.length co)).setCell ⟨g5, 0, none⟩ (.int .i64 (xn : Int))).setCell ⟨g5, 1, none⟩ (.int .i64 z)).setCell ⟨g6, 0, none⟩ (.int .i64 0))) (by rfl) rfl (by first | (go_simp; done) | (go_simp; rfl)) (fun w6_ hw => ?_)
     have K4_6 : Aside0 (w6_.heap[g4]? = some (.cells #[.slice (some ⟨go, 0, none⟩) l.length co] 22 (0, 0))) := ⟨by rw [hw]; exact blk_far (blk_far (blk_far (blk_put (blk_drew K4_5.out) 0 (.slice (some ⟨go, 0, none⟩) l.length co) rfl) (p := ⟨g5, 0, none⟩) D45.out _) (p := ⟨g5, 1, none⟩) D45.out _) (p := ⟨g6, 0, none⟩) D46.out _⟩
     have K5_6 : Aside0 (w6_.heap[g5]? = some (.cells #[.int .i64 (xn : Int), .int .i64 z] 24 (0, 0))) := ⟨by rw [hw]; exact blk_far (blk_put2 (blk_far (blk_drew K5_5.out) (p := ⟨g4, 0, none⟩) (fun e => D45.out e.symm) _) rfl _ _) (p := ⟨g6, 0, none⟩) D56.out _⟩
     have K6_6 : Aside0 (w6_.heap[g6]? = some (.cells #[.int .i64 0] 26 (0, 0))) := ⟨by rw [hw]; exact blk_put (blk_far (blk_far (blk_far (blk_drew K6_5.out) (p := ⟨g4, 0, none⟩) (fun e => D46.out e.symm) _) (p := ⟨g5, 0, none⟩) (fun e => D56.out e.symm) _) (p := ⟨g5, 1, none⟩) (fun e => D56.out e.symm) _) 0 _ rfl⟩
     have HS7_ : Aside0 (Kd.S k42 42 w6_ w.heap.size (fun _ => True) (.slice (some ⟨go, 0, none⟩) l.length co) (l.set (xn : Int).toNat (takeC (rd_T42 l (xn : Int)) z))) := ⟨by rw [hw]; exact Kd.S_lower (Kd.S_mono (Kd.S_far (Kd.S_far (Kd.S_far (Kd.S_far (Kd.S_drew (Kd.S_types (Kd.S_types (Kd.S_types HS6_.out K4_5.out (by decide)) K5_5.out (by decide)) K6_5.out (by decide))) (p := ⟨g4, 0, none⟩) (fun k hk => hk.1.1.2) _) (p := ⟨g5, 0, none⟩) (fun k hk => hk.1.2) _) (p := ⟨g5, 1, none⟩) (fun k hk => hk.1.2) _) (p := ⟨g6, 0, none⟩) (fun k hk => hk.2) _) (fun _ _ => trivial)) SZ5.out⟩
     have HBW6 : Aside0 (Below w.heap.size w w6_) := ⟨by rw [hw]; exact ((((below_drew HBW5.out).setCell (p := ⟨g4, 0, none⟩) P4.out _).setCell (p := ⟨g5, 0, none⟩) P5.out _).setCell (p := ⟨g5, 1, none⟩) P5.out _).setCell (p := ⟨g6, 0, none⟩) P6.out _⟩
     have HKF6 : Aside0 (KeepsFrom w9.heap.size W w6_) := ⟨by rw [hw]; exact HKF5.out.trans (((((KeepsOthers.drew _).trans (KeepsOthers.setCell _ _ _)).trans (KeepsOthers.setCell _ _ _)).trans ((KeepsOthers.setCell _ _ _).trans (KeepsOthers.setCell _ _ _))).from _)⟩
     have HKO6 : Aside0 (KeepsFrom 0 W' w6_) := ⟨by rw [hw]; exact HKO5.out.trans (((((KeepsOthers.drew _).trans (KeepsOthers.setCell _ _ _)).trans (KeepsOthers.setCell _ _ _)).trans ((KeepsOthers.setCell _ _ _).trans (KeepsOthers.setCell _ _ _))).from _)⟩
     clear hw
     refine hK.out _ _ ?_
     clear hK K
     refine done_ (done_of HT_.out (by kernel_rfl)) ?_
     simp only [Rnd.shutQ]
     gi_wp2
     exact ⟨keeps_up HKO6.out, ⟨rfl, pre', ⟨z, ⟨HZ.out.1, HZ.out.2⟩⟩, rfl, HQ.out, HCZ.out, ⟨K4_6.out, K5_6.out, K6_6.out, HS7_.out, HBW6.out⟩, HKF6.out⟩⟩
   case done2h =>
    rintro ys W' hS ⟨hq, hBW2, hKF⟩
    gi_wp2
    refine ⟨hKF, HBc.out.mono HBW.out.size |>.trans (hBW2.mono (Nat.le_trans HBW.out.size HBc.out.size)), ⟨fun t ht => ?_, HBW.out.trans ((HBc.out.mono HBW.out.size).trans (hBW2.mono (Nat.le_trans HBW.out.size HBc.out.size)))⟩⟩
    rcases List.mem_append.1 ht with ht | ht
    ·exact HFULL.out t ht
    ·obtain rfl := List.mem_singleton.1 ht
     show freeAt l (gn : Int) (bn : Int) (xn : Int) = none
     rw [HFR.out, List.find?_eq_none]
     intro t ht
     rw [← hS] at ht
     obtain ⟨s, hs, rfl⟩ := List.mem_map.1 ht
     rw [hq s hs]; decide
   case stop2h =>
    rintro c pre' W' hpre ⟨rfl, p, z, rfl, hp, hz, hfin, hKF⟩
    gi_wp2
    refine ⟨hKF, ⟨rfl, pre, _, z.1, rfl, HFULL.out, ?_, hfin⟩⟩
    show freeAt l (gn : Int) (bn : Int) (xn : Int) = some z.1
    obtain ⟨sfx, hsfx⟩ := hpre
    rw [HFR.out, ← hsfx, List.map_append, List.append_assoc, List.find?_append, List.find?_eq_none.2 (fun t ht => by obtain ⟨s, hs, rfl⟩ := List.mem_map.1 ht; rw [hp s hs]; decide), Option.none_or]
    show ((z.1 :: sfx).find? (fun t => !y.f5.contains t)) = some z.1
    rw [List.find?_cons, hz]
    rfl
  ·have HXG := Aside0.mk hxg
   have fg : ((xn : Int) == (gn : Int)) = false := by rw [beq_eq_false_iff_ne]; omega
   clear hxg
   gi_wp2_with (first | ((with_reducible refine gateIn_dst (N := 10) rfl ?_); refine box_in rfl (fun _ h => by cases h) (cs := #[.int .i64 0, .int .i64 0, .int .i64 0, .int .i64 0, .int .i64 0, .slice none 0 0, .slice none 0 0]) (t := 42) ?hrwa ?_; (case hrwa => first | (go_simp; done) | (go_simp; rfl)); intro gc hg wa hbox hb hk; have KC_a := Aside0.mk hbox; have HBa := Aside0.mk hb; have HKa := Aside0.mk hk; have PC := Aside0.mk (show W.heap.size ≤ gc by omega); have KX_a := Aside0.mk (blk_below KX_W.out hb); have K3_a := Aside0.mk (blk_below K3_W.out hb); have K4_a := Aside0.mk (blk_below K4_W.out hb); have K5_a := Aside0.mk (blk_below K5_W.out hb); have K6_a := Aside0.mk (blk_below K6_W.out hb); have K8_a := Aside0.mk (blk_below K8_W.out hb); clear cx_ cg_ cb_ c8_; obtain ⟨r0, r1, r2, r3, r4, r5, r6, z0, z1, z2, z3, z4, z5, z6⟩ := cf7 KC_a; clear hb hbox hg hk) | ((with_reducible refine gateIn_store (t := 42) (p := 10) rfl ?_); refine skip_in (w1 := (((((((wa.setCell ⟨gc, 0, none⟩ (.int .i64 y.f0)).setCell ⟨gc, 1, none⟩ (.int .i64 (mn : Int))).setCell ⟨gc, 2, none⟩ (.int .i64 y.f2)).setCell ⟨gc, 3, none⟩ (.int .i64 y.f3)).setCell ⟨gc, 4, none⟩ (.int .i64 (rn : Int))).setCell ⟨gc, 5, none⟩ (.slice A5 y.f5.length c5)).setCell ⟨gc, 6, none⟩ (.slice A6 y.f6.length c6))) rfl (fun _ h => by cases h) rfl ?hrwb ?_; (case hrwb => first | (go_simp; done) | (go_simp; rfl)); intro wb hw; have KC_b : Aside0 (wb.heap[gc]? = some (.cells #[.int .i64 y.f0, .int .i64 (mn : Int), .int .i64 y.f2, .int .i64 y.f3, .int .i64 (rn : Int), .slice A5 y.f5.length c5, .slice A6 y.f6.length c6] 42 (0, 0))) := ⟨by rw [hw]; exact blk_put7 KC_a.out rfl _ _ _ _ _ _ _⟩; have KX_b : Aside0 (wb.heap[Bx]? = some (.cells #[.int .i64 (xn : Int)] 3 (0, 0))) := ⟨by rw [hw]; exact blk_far7 KX_a.out (fun e => by have := blk_lt KX_W.out; have := PC.out; omega) 0 _ _ _ _ _ _ _⟩; have K3_b : Aside0 (wb.heap[g3]? = some (.cells #[.int .i64 (gn : Int), .int .i64 (bn : Int)] 24 (0, 0))) := ⟨by rw [hw]; exact blk_far7 K3_a.out (fun e => by have := blk_lt K3_W.out; have := PC.out; omega) 0 _ _ _ _ _ _ _⟩; have K4_b : Aside0 (wb.heap[g4]? = some (.cells #[.slice none 0 0] 22 (0, 0))) := ⟨by rw [hw]; exact blk_far7 K4_a.out (fun e => by have := blk_lt K4_W.out; have := PC.out; omega) 0 _ _ _ _ _ _ _⟩; have K5_b : Aside0 (wb.heap[g5]? = some (.cells #[.int .i64 0, .int .i64 0] 24 (0, 0))) := ⟨by rw [hw]; exact blk_far7 K5_a.out (fun e => by have := blk_lt K5_W.out; have := PC.out; omega) 0 _ _ _ _ _ _ _⟩; have K6_b : Aside0 (wb.heap[g6]? = some (.cells #[.int .i64 0] 26 (0, 0))) := ⟨by rw [hw]; exact blk_far7 K6_a.out (fun e => by have := blk_lt K6_W.out; have := PC.out; omega) 0 _ _ _ _ _ _ _⟩; have K8_b : Aside0 (wb.heap[g8]? = some (.cells #[.slice (some ⟨go, 0, none⟩) l.length co] 22 (0, 0))) := ⟨by rw [hw]; exact blk_far7 K8_a.out (fun e => by have := blk_lt K8_W.out; have := PC.out; omega) 0 _ _ _ _ _ _ _⟩; have HBb : Aside0 (Below W.heap.size W wb) := ⟨by rw [hw]; exact below_set7 HBa.out PC.out 0 _ _ _ _ _ _ _⟩; have HKb : Aside0 (KeepsOthers W wb) := ⟨by rw [hw]; exact HKa.out.trans (KeepsOthers.set7 gc 0 _ _ _ _ _ _ _)⟩; clear r0 r1 r2 r3 r4 r5 r6 z0 z1 z2 z3 z4 z5 z6 x0 x1 x2 x3 x4 x5 x6 KC_a KX_a K3_a K4_a K5_a K6_a K8_a HBa HKa; have cx_ : wb.cell? ⟨Bx, 0, none⟩ = some (.int .i64 (xn : Int)) := (blk_cell KX_b.out 0).trans rfl; obtain ⟨cg_, cb_⟩ := c2 K3_b; have c8_ : wb.cell? ⟨g8, 0, none⟩ = some (.slice (some ⟨go, 0, none⟩) l.length co) := (blk_cell K8_b.out 0).trans rfl; obtain ⟨y0, y1, y2, y3, y4, y5, y6⟩ := c7 KC_b; clear hw) | (refine ⟨trivial, ?_⟩; gi_at_call 48; refine (CallsIn.inRound lr (round_in Fence.wide _ trivial rfl (rn : Int) (mn : Int) wb)).mono ?_; rintro e wc ⟨rfl, hwc⟩; have KF2 : Aside0 (wc.heap[wb.heap.size]? = some (.cells #[.int .i64 (rn : Int)] 3 (0, 0))) := ⟨by rw [hwc]; first | done | exact blk_alloc (blk_new wb _) _⟩; have KN2 : Aside0 (wc.heap[wb.heap.size + 1]? = some (.cells #[.int .i64 (mn : Int)] 3 (0, 0))) := ⟨by rw [hwc]; first | done | exact blk_new2 _ _ _⟩; have hb : Below wb.heap.size wb wc := (by rw [hwc]; first | done | exact below_alloc (below_alloc (Below.refl _ _) _) _); have hk : KeepsOthers wb wc := (by rw [hwc]; first | done | exact (KeepsOthers.alloc _ _).trans (KeepsOthers.alloc _ _)); have KC_c := Aside0.mk (blk_below KC_b.out hb); have KX_c := Aside0.mk (blk_below KX_b.out hb); have K3_c := Aside0.mk (blk_below K3_b.out hb); have K4_c := Aside0.mk (blk_below K4_b.out hb); have K5_c := Aside0.mk (blk_below K5_b.out hb); have K6_c := Aside0.mk (blk_below K6_b.out hb); have K8_c := Aside0.mk (blk_below K8_b.out hb); have HBc := Aside0.mk (HBb.out.trans (hb.mono HBb.out.size)); have HKc := Aside0.mk (HKb.out.trans hk); have SZc := Aside0.mk hb.size; clear hb hk hwc KC_b KX_b K3_b K4_b K5_b K6_b K8_b HBb HKb cx_ cg_ cb_ c8_ y0 y1 y2 y3 y4 y5 y6))
   have hr' : wc.heap[lr]? = some (.loop r) := (HBc.out.block lr (Array.getElem?_eq_some_iff.1 HR.out).1).trans HR.out
   have hcN2 : wc.cell? ⟨wb.heap.size + 1, 0, none⟩ = some (.int .i64 (mn : Int)) := (blk_cell KN2.out 0).trans rfl
   have hcF2 : wc.cell? ⟨wb.heap.size, 0, none⟩ = some (.int .i64 (rn : Int)) := (blk_cell KF2.out 0).trans rfl
   have hlN2 := blk_lt KN2.out
   have hmn_ := HMN.out
   have hrn_ := HRN.out
   have hb1_ := HRY.out.b1
   have hb0_ := HRY.out.b0
   have hr1_ := HRY.out.r1
   have hfree : freeAt l (gn : Int) (bn : Int) (xn : Int) = (roundL rn mn).find? (fun t => !y.f5.contains t) := by
    unfold freeAt freeC
    rw [HXY.out, if_neg (show ¬ (xn : Int) = (gn : Int) from fun e => HXG.out (by omega)), HRN.out, HMN.out]
    rfl
   have HFR := Aside0.mk hfree
   refine wpIn_rangeFunc_ownN (l₀ := lr) (r₀ := r) rfl hr' (by omega) (gf := 73) (lb := #[.pointer (some ⟨wb.heap.size + 1, 0, none⟩), .pointer (some ⟨wb.heap.size, 0, none⟩)]) rfl trivial (enters_of Try.func73 (by kernel_rfl) rfl)
    ((round_stops Fence.wide 9 trivial rfl (by omega) (wb.heap.size + 1) wb.heap.size wc.heap.size rn mn (by omega) (by omega) wc (by omega) (by omega) (Nat.le_refl _) hcN2 hcF2).inRound lr) belowK_t (belowK_b (Nat.le_refl _)) (Below.refl _ _) (fun _ => rfl)
    (fun pre' W' => (∀ t ∈ pre', y.f5.contains t.1 = true) ∧ (Below wc.heap.size wc W' ∧ KeepsFrom w9.heap.size W W'))
    (fun c pre' W' => (c = .ret ∧ ∃ (p : List (Rng mn)) (z : Rng mn), pre' = p ++ [z] ∧ (∀ t ∈ p, y.f5.contains t.1 = true) ∧ y.f5.contains z.1 = false ∧ (W'.heap[g4]? = some (.cells #[.slice (some ⟨go, 0, none⟩) l.length co] 22 (0, 0)) ∧ W'.heap[g5]? = some (.cells #[.int .i64 (xn : Int), .int .i64 z.1] 24 (0, 0)) ∧ W'.heap[g6]? = some (.cells #[.int .i64 0] 26 (0, 0)) ∧ Kd.S k42 42 W' w.heap.size (fun _ => True) (.slice (some ⟨go, 0, none⟩) l.length co) (l.set ((xn : Int) : Int).toNat (takeC (rd_T42 l (xn : Int)) z.1)) ∧ Below w.heap.size w W') ∧ KeepsFrom w9.heap.size W W'))
    (OwnFrom.and (ownFrom_pure _ _) (OwnFrom.and (ownFrom_below (Nat.le_refl _) (Nat.le_refl _)) (ownFrom_keepsFrom HBc.out.size)))
    (fun c => fun s A B row hs hg hr => by
     obtain ⟨e, p, z, h1, h2, h3, ⟨h4, h5, h6, h7, h8⟩, h9⟩ := hs
     exact ⟨e, p, z, h1, h2, h3, ⟨ownF_blk wc.heap.size g4 22 (fun (_ : Unit) => #[.slice (some ⟨go, 0, none⟩) l.length co]) () A B row h4 hg hr, ownF_blk wc.heap.size g5 24 (fun (_ : Unit) => #[.int .i64 (xn : Int), .int .i64 z.1]) () A B row h5 hg hr, ownF_blk wc.heap.size g6 26 (fun (_ : Unit) => #[.int .i64 0]) () A B row h6 hg hr, ownF_S wc.heap.size w.heap.size _ (fun (_ : Unit) => l.set (xn : Int).toNat (takeC (rd_T42 l (xn : Int)) z.1)) () A B row h7 hg hr, ownFrom_below (Nat.le_refl _) (Nat.le_trans HB9.out.size (Nat.le_trans HBW.out.size HBc.out.size)) () A B row h8 hg hr⟩, ownFrom_keepsFrom HBc.out.size () A B row h9 hg hr⟩)
    ⟨by simp, Below.refl _ _, HKc.out.from _⟩
    (fun z a'' _ => a'' = { tmps := #[.slice A0 l.length c0, .agg #[.int .i64 (gn : Int), .int .i64 (bn : Int)], undef, .pointer (some ⟨g3, 0, none⟩), .pointer (some ⟨g4, 0, none⟩), .pointer (some ⟨g5, 0, none⟩), .pointer (some ⟨g6, 0, none⟩), .int .i64 0, .pointer (some ⟨g8, 0, none⟩), .pointer (some ⟨Bx, 0, none⟩), .pointer (some ⟨gc, 0, none⟩), .int .i64 (rn : Int), .int .i64 z.1, undef, undef, .slice A0 l.length c0, .agg #[.int .i64 (gn : Int), .int .i64 (bn : Int)], .int .i64 0, .int .i64 0, .bool false, undef, undef, .slice A0 l.length c0, .slice (some ⟨go, 0, none⟩) l.length co, .pointer (some ⟨g3, 0, none⟩), .int .i64 (gn : Int), .slice A0 l.length c0, .int .i64 (l.length : Int), .func (.func 73) #[] #[.pointer (some ⟨sF + 1, 0, none⟩), .pointer (some ⟨sF, 0, none⟩)], .int .i64 (xn : Int), .slice (some ⟨go, 0, none⟩) l.length co, .int .i64 (xn : Int), .pointer (some ⟨go, xn * 7, none⟩), .agg #[.int .i64 y.f0, .int .i64 (mn : Int), .int .i64 y.f2, .int .i64 y.f3, .int .i64 (rn : Int), .slice A5 y.f5.length c5, .slice A6 y.f6.length c6], .pointer (some ⟨gc, 4, none⟩), .int .i64 (rn : Int), .int .i64 (xn : Int), .pointer (some ⟨g3, 0, none⟩), .int .i64 (gn : Int), .bool false, undef, undef, .int .i64 (rn : Int), .pointer (some ⟨gc, 1, none⟩), .int .i64 (mn : Int), .func (.func 73) #[] #[.pointer (some ⟨wb.heap.size + 1, 0, none⟩), .pointer (some ⟨wb.heap.size, 0, none⟩)], .int .i64 z.1, undef, undef, undef, undef, undef, undef, undef, undef, undef, undef, undef, undef, undef, undef, undef, undef, undef, undef, undef, undef, undef, undef, undef, undef, undef, undef, undef], defers := [] })
    (fun _ _ _ _ _ _ hs _ _ => hs)
    ?assign2m ?body2m ?done2m ?stop2m
   case assign2m =>
    rintro l2 pre' z W' K hi hK
    gi_wp2
    exact hK _ _ (KeepsFrom.refl _ _) (Below.refl _ _) hi rfl
   case body2m =>
    rintro l2 pre' z a'' W' _ _ ⟨hq, hBW2, hKF⟩ rfl _
    obtain ⟨z, hz0, hz1⟩ := z
    have KC_2 := Aside0.mk (blk_below KC_c.out hBW2)
    have c5_ : W'.cell? ⟨gc, 5, none⟩ = some (.slice A5 y.f5.length c5) := (blk_cell KC_2.out 5).trans rfl
    have hBWW : Below W.heap.size W W' := HBc.out.trans (hBW2.mono HBc.out.size)
    have hC5 := Kd.C_below G5.out hBWW
    have hup := (rise2_all HRY.out.u).2
    have hul := HRY.out.ulen
    have HQ := Aside0.mk hq
    have HBW2 := Aside0.mk hBW2
    have HKF := Aside0.mk hKF
    have HBWW := Aside0.mk hBWW
    cases hcz : y.f5.contains z with
    | true =>
     have hins := insert_has A5 c5 y.f5 z W' hC5 L5.out hup (by omega) hcz
     have HCZ := Aside0.mk hcz
     clear hq hBW2 hKF hBWW hC5 hup hul hcz hr' hcN2 hcF2 hlN2 hmn_ hrn_ hb1_ hb0_ hr1_ hfree
     gi_wp2_with (refine ⟨trivial, ?_⟩; gi_at_call 49; refine (CallsIn.inRound l2 (CallsIn.inRound lr (callsIn_wide.2 hins))).mono ?_; rintro e w2 ⟨rfl, hw2⟩; have HW2 := Aside0.mk hw2; clear hw2)
     obtain ⟨nd, rfl⟩ := HW2.out
     have hbd : Below W'.heap.size W' (W'.drewN nd) := pw_below_drewN (Below.refl _ _) nd
     refine ⟨keeps_below hbd, hbd.mono HBW2.out.size, ⟨fun t ht => ?_, HBW2.out.trans (hbd.mono HBW2.out.size), HKF.out.trans (keeps_below hbd)⟩⟩
     rcases List.mem_append.1 ht with ht | ht
     ·exact HQ.out t ht
     ·obtain rfl := List.mem_singleton.1 ht
      exact HCZ.out
    | false =>
     have hins := insert_new A5 c5 y.f5 z W' hC5 L5.out hup (by omega) hcz
     have hpl := putAt_len y.f5 (ixOf y.f5 z) z
     obtain ⟨P, hP⟩ : ∃ P, putAt y.f5 (ixOf y.f5 z) z = P := ⟨_, rfl⟩
     rw [hP] at hins hpl
     have HP := Aside0.mk hP
     have HPL := Aside0.mk hpl
     have HCZ := Aside0.mk hcz
     obtain ⟨ro, hro⟩ : ∃ ro : Int, (z + 1) % (mn : Int) = ro := ⟨_, rfl⟩
     have hro2 : Int.tmod (z + 1) (mn : Int) = ro := by rw [Int.tmod_eq_emod_of_nonneg (by omega)]; exact hro
     have HRO := Aside0.mk hro
     have HZ := Aside0.mk (show 0 ≤ z ∧ z < (mn : Int) from ⟨hz0, hz1⟩)
     have HMN2 := Aside0.mk (show 1 ≤ mn ∧ mn ≤ 64 from by omega)
     have hne : ((mn : Int) == 0) = false := by rw [beq_eq_false_iff_ne]; omega
     have hne2 : ¬ (mn : Int) = 0 := by omega
     have hwz : IntKind.i64.wrap (z + 1) = z + 1 := IntWalk.i64_in _ (by omega)
     have hwz2 : wrap64 (z + 1) = z + 1 := by unfold wrap64; omega
     have hne3 : ¬ mn = 0 := by omega
     have HNE := Aside0.mk (And.intro hne3 (And.intro hne (And.intro hne2 (And.intro hwz (And.intro hwz2 hro2)))))
     clear hq hBW2 hKF hBWW hC5 hup hul hcz hr' hcN2 hcF2 hlN2 hmn_ hrn_ hb1_ hb0_ hr1_ hfree hro hro2 hpl hP hne hne2 hne3 hwz hwz2
     gi_wp2_with (refine ⟨trivial, ?_⟩; gi_at_call 49; refine (CallsIn.inRound l2 (CallsIn.inRound lr (callsIn_wide.2 hins))).mono ?_; rintro e w2 ⟨v, rfl, hR, hb⟩; obtain ⟨gi, ci, rfl, _, _, _⟩ := Kd.R_form hR (by have := HPL.out; omega); have HR2 := Aside0.mk hR; have HB2_ := Aside0.mk hb; clear hR hb hins c5_)
     have hb2 : Below W.heap.size W w2 := HBWW.out.trans (HB2_.out.mono HBWW.out.size)
     have hbc : Below wc.heap.size wc w2 := HBW2.out.trans (HB2_.out.mono HBW2.out.size)
     have KC_3 := Aside0.mk (blk_below KC_2.out HB2_.out)
     have KX_3 := Aside0.mk (blk_below KX_c.out hbc)
     have K3_3 := Aside0.mk (blk_below K3_c.out hbc)
     have K4_3 := Aside0.mk (blk_below K4_c.out hbc)
     have K5_3 := Aside0.mk (blk_below K5_c.out hbc)
     have K6_3 := Aside0.mk (blk_below K6_c.out hbc)
     have K8_3 := Aside0.mk (blk_below K8_c.out hbc)
     have HS3 := Aside0.mk (Kd.S_below HSW.out hb2)
     have HBW3 := Aside0.mk hb2
     have HKF3 := Aside0.mk (HKF.out.trans (keeps_below HB2_.out))
     have HKO3 := Aside0.mk (keeps_below (B := 0) HB2_.out)
     have PX : Aside0 (gc ≠ Bx ∧ gc ≠ g3 ∧ gc ≠ g4 ∧ gc ≠ g5 ∧ gc ≠ g6 ∧ gc ≠ g8) := ⟨by have h0_ := PC.out; have h1_ := blk_lt KX_W.out; have h2_ := blk_lt K3_W.out; have h3_ := blk_lt K4_W.out; have h4_ := blk_lt K5_W.out; have h5_ := blk_lt K6_W.out; have h6_ := blk_lt K8_W.out; omega⟩
     have PG : Aside0 (w5.heap.size ≤ go ∧ go < W.heap.size) := ⟨⟨Kd.S_base HSW.out go rfl, Kd.S_lt HSW.out go rfl⟩⟩
     have m1_ : w2.cell? ⟨gc, 1, none⟩ = some (.int .i64 (mn : Int)) := (blk_cell KC_3.out 1).trans rfl
     have m4_ : w2.cell? ⟨gc, 4, none⟩ = some (.int .i64 (rn : Int)) := (blk_cell KC_3.out 4).trans rfl
     have m5_ : w2.cell? ⟨gc, 5, none⟩ = some (.slice A5 y.f5.length c5) := (blk_cell KC_3.out 5).trans rfl
     have u4_ := blk_frozen KC_3.out 4
     have u5_ := blk_frozen KC_3.out 5
     obtain ⟨hne3, hne, hne2, hwz, hwz2, hro2⟩ := HNE.out
     have hro := HRO.out
     clear hb2 hbc
     refine Rnd.start_in (lr := l2) (k := 10) (S := fun w' => w'.cell? ⟨gc, 1, none⟩ = some (.int .i64 (mn : Int))) (ds := [7, 9]) #[false, false, false, false, false, false, false, false, false, false] (by kernel_rfl) (by kernel_rfl) rfl rfl m1_ (fun hHeld => ?_); refine with_tabW tk_tab15 tk_bits15 (fun HT_ HW_ => ?_)
     refine pure_ (i := 0) (N := some 56) (v := ?_) (a' := ?_) #[true, false, false, false, false, false, false, false, false, false] rfl rfl (any_of HT_.out (by kernel_rfl)) (fun _ _ _ h => h) (Or.inl ⟨by rfl, ?_⟩) ?_ ?_
     rotate_left
     ·intro w'
      go_simp
      with_reducible rfl
     rotate_left
     ·go_simp
      rfl
     refine pure_ (i := 1) (N := some 57) (v := ?_) (a' := ?_) #[true, true, false, false, false, false, false, false, false, false] rfl rfl (any_of HT_.out (by kernel_rfl)) (fun _ _ _ h => h) (Or.inl ⟨by rfl, ?_⟩) ?_ ?_
     rotate_left
     ·intro w'
      go_simp
      with_reducible rfl
     rotate_left
     ·go_simp
      rfl
     refine pure_ (i := 2) (N := some 58) (v := ?_) (a' := ?_) #[true, true, true, false, false, false, false, false, false, false] rfl rfl (any_of HT_.out (by kernel_rfl)) (fun _ _ _ h => h) (Or.inl ⟨by rfl, ?_⟩) ?_ ?_
     rotate_left
     ·intro w'
      go_simp
      with_reducible rfl
     rotate_left
     ·simp only [Act.put, List.setIfInBounds_toArray, List.set_cons_zero, List.set_cons_succ, i64_w]
      rfl
     refine pure_ (i := 3) (N := some 59) (v := ?_) (a' := ?_) #[true, true, true, true, false, false, false, false, false, false] rfl rfl (any_of HT_.out (by kernel_rfl)) (fun _ _ _ h => h) (Or.inl ⟨by rfl, ?_⟩) ?_ ?_
     rotate_left
     ·intro w'
      go_simp
      with_reducible rfl
     rotate_left
     ·go_simp
      rfl
     refine take_ (i := 4) (N := some 60) (v := ?_) (a' := ?_) #[true, true, true, true, true, false, false, false, false, false] rfl rfl (take_ofW HT_.out HW_.out (by kernel_rfl)) (fun _ _ _ h => h) (Or.inl ⟨by rfl, ?_⟩) hHeld ?_ ?_
     rotate_left
     ·rintro w' s0
      go_simp
      with_reducible rfl
     rotate_left
     ·go_simp
      rfl
     refine pure_ (i := 5) (N := some 61) (v := ?_) (a' := ?_) #[true, true, true, true, true, true, false, false, false, false] rfl rfl (any_of HT_.out (by kernel_rfl)) (fun _ _ _ h => h) (Or.inl ⟨by rfl, ?_⟩) ?_ ?_
     rotate_left
     ·intro w'
      go_simp
      with_reducible rfl
     rotate_left
     ·simp only [Act.put, List.setIfInBounds_toArray, List.set_cons_zero, List.set_cons_succ, i64_w]
      rfl
     refine pure_ (i := 6) (N := some 62) (v := ?_) (a' := ?_) #[true, true, true, true, true, true, true, false, false, false] rfl rfl (any_of HT_.out (by kernel_rfl)) (fun _ _ _ h => h) (Or.inl ⟨by rfl, ?_⟩) ?_ ?_
     rotate_left
     ·intro w'
      go_simp
      with_reducible rfl
     rotate_left
     ·go_simp
      rfl
     refine last_ (i := 7) (N := none) #[true, true, true, true, true, true, true, true, false, false] rfl rfl (one_of HT_.out (by kernel_rfl)) (by decide) (fun K hK => ?_)
     refine skip_ (w1 := ?_) (by rfl) rfl ?_ ?_
     rotate_left
     ·go_simp
      rfl
     refine hK.out _ _ ?_
     clear hK K
     refine pure_ (i := 8) (N := some 63) (v := ?_) (a' := ?_) #[true, true, true, true, true, true, true, true, true, false] rfl rfl (any_of HT_.out (by kernel_rfl)) (fun _ _ _ h => h) (Or.inl ⟨by rfl, ?_⟩) ?_ ?_
     rotate_left
     ·intro w'
      go_simp
      with_reducible rfl
     rotate_left
     ·go_simp
      rfl
     refine last_ (i := 9) (N := none) #[true, true, true, true, true, true, true, true, true, true] rfl rfl (one_of HT_.out (by kernel_rfl)) (by decide) (fun K hK => ?_)
     refine skipE_ (w1 := ((w2.drew.setCell ⟨gc, 5, none⟩ (.slice (some ⟨gi, 0, none⟩) P.length ci)).setCell ⟨gc, 4, none⟩ (.int .i64 ro))) (by rfl) rfl (by first | (go_simp; done) | (go_simp; rfl)) (fun w3 hw => ?_)
     have KC_4 : Aside0 (w3.heap[gc]? = some (.cells #[.int .i64 y.f0, .int .i64 (mn : Int), .int .i64 y.f2, .int .i64 y.f3, .int .i64 ro, .slice (some ⟨gi, 0, none⟩) P.length ci, .slice A6 y.f6.length c6] 42 (0, 0))) := ⟨by rw [hw]; exact blk_put (blk_put (blk_drew KC_3.out) 5 (.slice (some ⟨gi, 0, none⟩) P.length ci) rfl) 4 (.int .i64 ro) rfl⟩
     have KX_4 : Aside0 (w3.heap[Bx]? = some (.cells #[.int .i64 (xn : Int)] 3 (0, 0))) := ⟨by rw [hw]; exact blk_far (blk_far (blk_drew KX_3.out) (p := ⟨gc, 5, none⟩) (fun e => PX.out.1 e.symm) _) (p := ⟨gc, 4, none⟩) (fun e => PX.out.1 e.symm) _⟩
     have K3_4 : Aside0 (w3.heap[g3]? = some (.cells #[.int .i64 (gn : Int), .int .i64 (bn : Int)] 24 (0, 0))) := ⟨by rw [hw]; exact blk_far (blk_far (blk_drew K3_3.out) (p := ⟨gc, 5, none⟩) (fun e => PX.out.2.1 e.symm) _) (p := ⟨gc, 4, none⟩) (fun e => PX.out.2.1 e.symm) _⟩
     have K4_4 : Aside0 (w3.heap[g4]? = some (.cells #[.slice none 0 0] 22 (0, 0))) := ⟨by rw [hw]; exact blk_far (blk_far (blk_drew K4_3.out) (p := ⟨gc, 5, none⟩) (fun e => PX.out.2.2.1 e.symm) _) (p := ⟨gc, 4, none⟩) (fun e => PX.out.2.2.1 e.symm) _⟩
     have K5_4 : Aside0 (w3.heap[g5]? = some (.cells #[.int .i64 0, .int .i64 0] 24 (0, 0))) := ⟨by rw [hw]; exact blk_far (blk_far (blk_drew K5_3.out) (p := ⟨gc, 5, none⟩) (fun e => PX.out.2.2.2.1 e.symm) _) (p := ⟨gc, 4, none⟩) (fun e => PX.out.2.2.2.1 e.symm) _⟩
     have K6_4 : Aside0 (w3.heap[g6]? = some (.cells #[.int .i64 0] 26 (0, 0))) := ⟨by rw [hw]; exact blk_far (blk_far (blk_drew K6_3.out) (p := ⟨gc, 5, none⟩) (fun e => PX.out.2.2.2.2.1 e.symm) _) (p := ⟨gc, 4, none⟩) (fun e => PX.out.2.2.2.2.1 e.symm) _⟩
     have K8_4 : Aside0 (w3.heap[g8]? = some (.cells #[.slice (some ⟨go, 0, none⟩) l.length co] 22 (0, 0))) := ⟨by rw [hw]; exact blk_far (blk_far (blk_drew K8_3.out) (p := ⟨gc, 5, none⟩) (fun e => PX.out.2.2.2.2.2 e.symm) _) (p := ⟨gc, 4, none⟩) (fun e => PX.out.2.2.2.2.2 e.symm) _⟩
     have HS4 : Aside0 (Kd.S k42 42 w3 w5.heap.size (fun k => k < W'.heap.size) (.slice (some ⟨go, 0, none⟩) l.length co) l) := ⟨by rw [hw]; exact Kd.S_far (Kd.S_far (Kd.S_drew (Kd.S_mono (Kd.S_below (Kd.S_mono (Kd.S_bound HSW.out) (fun k hk => (⟨Nat.lt_of_lt_of_le hk.2.2.1 HBWW.out.size, (fun e => by have := hk.2.2.1; have := PC.out; omega : k ≠ gc)⟩ : k < W'.heap.size ∧ k ≠ gc))) HBW3.out) (fun _ h => h))) (p := ⟨gc, 5, none⟩) (fun k hk => hk.2) _) (p := ⟨gc, 4, none⟩) (fun k hk => hk.2) _ |> fun h => Kd.S_mono h (fun k hk => hk.1)⟩
     have HR4 : Aside0 (Kd.R (Kd.int .i64) 3 w3 W'.heap.size (fun _ => True) (.slice (some ⟨gi, 0, none⟩) P.length ci) P) := ⟨by rw [hw]; exact Kd.R_mono (Kd.R_far (Kd.R_far (Kd.R_drew (Kd.R_mono (Kd.R_bound HR2.out) (fun k hk => (fun e => by have h1_ := hk.2.1; have h2_ := blk_lt KC_2.out; omega : k ≠ gc)))) (p := ⟨gc, 5, none⟩) (fun _ h => h) _) (p := ⟨gc, 4, none⟩) (fun _ h => h) _) (fun _ _ => trivial)⟩
     have HBW4 : Aside0 (Below W.heap.size W w3) := ⟨by rw [hw]; exact ((below_drew HBW3.out).setCell (p := ⟨gc, 5, none⟩) PC.out _).setCell (p := ⟨gc, 4, none⟩) PC.out _⟩
     have HKF4 : Aside0 (KeepsFrom w9.heap.size W w3) := ⟨by rw [hw]; exact HKF3.out.trans ((((KeepsOthers.drew _).trans (KeepsOthers.setCell _ _ _)).trans (KeepsOthers.setCell _ _ _)).from _)⟩
     have HKO4 : Aside0 (KeepsFrom 0 W' w3) := ⟨by rw [hw]; exact HKO3.out.trans ((((KeepsOthers.drew _).trans (KeepsOthers.setCell _ _ _)).trans (KeepsOthers.setCell _ _ _)).from _)⟩
     clear m1_ m4_ m5_ u4_ u5_ hne hne2 hne3 hwz hwz2 hro2 hro KC_2 KC_3 KX_3 K3_3 K4_3 K5_3 K6_3 K8_3 HS3 HBW3 HKF3 HR2 KC_c KX_c K3_c K4_c K5_c K6_c K8_c
     clear hw
     refine hK.out _ _ ?_
     clear hK K
     refine done_ (done_of HT_.out (by kernel_rfl)) ?_
     simp only [Rnd.shutQ]
     gi_wp2
     have s0 : w3.cell? ⟨g8, 0, none⟩ = some (.slice (some ⟨go, 0, none⟩) l.length co) := (blk_cell K8_4.out 0).trans rfl
     have s1 : w3.cell? ⟨Bx, 0, none⟩ = some (.int .i64 (xn : Int)) := (blk_cell KX_4.out 0).trans rfl
     obtain ⟨s2, s3, s4, s5, s6, s7, s8⟩ := c7 KC_4
     have p1_ : (0 ≤ (xn : Int)) = True := p1
     have hP3 := HPL.out
     have hu5_ := HRY.out.ulen
     have hn6_ := HRY.out.nlen
     have hb_ := HRY.out.b1
     have hb0_ := HRY.out.b0
     have hmn_ := HMN.out
     have hm5 : wrap64 ((mn : Int) - (P.length : Int)) = (mn : Int) - ((y.f5.length : Int) + 1) := by unfold wrap64; omega
     have hm6 : wrap64 (16 - (y.f6.length : Int)) = 16 - (y.f6.length : Int) := by unfold wrap64; omega
     have hrc := fun W_ => recount_calls y.f0 (mn : Int) y.f2 y.f3 ro (some ⟨gi, 0, none⟩) P.length ci A6 y.f6.length c6 W_
     rw [hm5, hm6] at hrc
     obtain ⟨k5, hk5⟩ : ∃ k5, (mn : Int) - ((y.f5.length : Int) + 1) = k5 := ⟨_, rfl⟩
     obtain ⟨k6, hk6⟩ : ∃ k6, 16 - (y.f6.length : Int) = k6 := ⟨_, rfl⟩
     rw [hk5, hk6] at hrc
     have HM5 := Aside0.mk hk5
     have HM6 := Aside0.mk hk6
     clear hP3 hu5_ hn6_ hb_ hb0_ hmn_ hm5 hm6 hk5 hk6
     have HTK : Aside0 ((⟨y.f0, (mn : Int), k5, k6, ro, P, (l.getD (xn : Int).toNat z42).f6⟩ : S42) = takeC (rd_T42 l (xn : Int)) z) := ⟨by rw [Int.toNat_natCast, HGD.out, HXY.out]; unfold takeC; rw [HMN.out, HRO.out, HP.out, HM5.out, HM6.out]⟩
     refine Rnd.start_in (lr := l2) (k := 6) (S := fun w' => w'.cell? ⟨g8, 0, none⟩ = some (.slice (some ⟨go, 0, none⟩) l.length co) ∧ w'.cell? ⟨Bx, 0, none⟩ = some (.int .i64 (xn : Int)) ∧ w'.cell? ⟨gc, 0, none⟩ = some (.int .i64 y.f0) ∧ w'.cell? ⟨gc, 1, none⟩ = some (.int .i64 (mn : Int)) ∧ w'.cell? ⟨gc, 2, none⟩ = some (.int .i64 y.f2) ∧ w'.cell? ⟨gc, 3, none⟩ = some (.int .i64 y.f3) ∧ w'.cell? ⟨gc, 4, none⟩ = some (.int .i64 ro) ∧ w'.cell? ⟨gc, 5, none⟩ = some (.slice (some ⟨gi, 0, none⟩) P.length ci) ∧ w'.cell? ⟨gc, 6, none⟩ = some (.slice A6 y.f6.length c6)) (ds := [5]) #[false, false, false, false, false, false] (by kernel_rfl) (by kernel_rfl) rfl rfl ⟨s0, s1, s2, s3, s4, s5, s6, s7, s8⟩ (fun hHeld => ?_); refine with_tabW tk_tab16 tk_bits16 (fun HT_ HW_ => ?_)
     refine take_ (i := 0) (N := some 64) (v := ?_) (a' := ?_) #[true, false, false, false, false, false] rfl rfl (take_ofW HT_.out HW_.out (by kernel_rfl)) (fun _ _ _ h => h) (Or.inl ⟨by rfl, ?_⟩) hHeld ?_ ?_
     rotate_left
     ·rintro w' ⟨s0, s1, s2, s3, s4, s5, s6, s7, s8⟩
      go_simp
      with_reducible rfl
     rotate_left
     ·go_simp
      rfl
     refine take_ (i := 1) (N := some 65) (v := ?_) (a' := ?_) #[true, true, false, false, false, false] rfl rfl (take_ofW HT_.out HW_.out (by kernel_rfl)) (fun _ _ _ h => h) (Or.inl ⟨by rfl, ?_⟩) hHeld ?_ ?_
     rotate_left
     ·rintro w' ⟨s0, s1, s2, s3, s4, s5, s6, s7, s8⟩
      go_simp
      with_reducible rfl
     rotate_left
     ·go_simp
      rfl
     refine take_ (i := 2) (N := some 66) (v := ?_) (a' := ?_) #[true, true, true, false, false, false] rfl rfl (take_ofW HT_.out HW_.out (by kernel_rfl)) (fun _ _ _ h => h) (Or.inl ⟨by rfl, ?_⟩) hHeld ?_ ?_
     rotate_left
     ·rintro w' ⟨s0, s1, s2, s3, s4, s5, s6, s7, s8⟩
      go_simp
      with_reducible rfl
     rotate_left
     ·go_simp
      rfl
     refine one_ (i := 3) (N := some 67) #[true, true, true, true, false, false] rfl rfl (one_of HT_.out (by kernel_rfl)) (by decide) (fun K hK => ?_)
     refine goes_ Try.func50 (by kernel_rfl) rfl #[.agg #[.int .i64 y.f0, .int .i64 (mn : Int), .int .i64 y.f2, .int .i64 y.f3, .int .i64 ro, .slice (some ⟨gi, 0, none⟩) P.length ci, .slice A6 y.f6.length c6]] (by rfl) rfl rfl (by (try simp only [List.map_toArray, List.map_cons, List.map_nil]); rfl) ?_
     refine (hrc _).mono ?_
     rintro e w4_ ⟨rfl, hb⟩
     have HB34 : Aside0 (Below w3.heap.size w3 w4_) := ⟨below_step (below_drew (Below.refl _ _)) hb⟩
     refine ⟨_, rfl, ?_⟩
     obtain ⟨t0, t1, t2, t3, t4, t5, t6, t7, t8⟩ := hHeld
     have a0 := pw_cell_below hb t0
     have a1 := pw_cell_below hb t1
     have a2 := pw_cell_below hb t2
     have a3 := pw_cell_below hb t3
     have a4 := pw_cell_below hb t4
     have a5 := pw_cell_below hb t5
     have a6 := pw_cell_below hb t6
     have a7 := pw_cell_below hb t7
     have a8 := pw_cell_below hb t8
     clear t0 t1 t2 t3 t4 t5 t6 t7 t8 hb
     refine hK.out _ _ ⟨a0, a1, a2, a3, a4, a5, a6, a7, a8⟩ (fun hHeld => ?_)
     clear hK K
     refine norm_ (a' := ?_) ?_ ?_
     rotate_left
     ·show Act.put _ (some 67) _ = _
      go_simp
      rfl
     refine pure_ (i := 4) (N := some 68) (v := ?_) (a' := ?_) #[true, true, true, true, true, false] rfl rfl (any_of HT_.out (by kernel_rfl)) (fun _ _ _ h => h) (Or.inl ⟨by rfl, ?_⟩) ?_ ?_
     rotate_left
     ·intro w'
      go_simp
      with_reducible rfl
     rotate_left
     ·go_simp
      rfl
     refine last_ (i := 5) (N := none) #[true, true, true, true, true, true] rfl rfl (one_of HT_.out (by kernel_rfl)) (by decide) (fun K hK => ?_)
     have hS5 := Kd.S_below HS4.out HB34.out
     obtain ⟨_, ce, _, hM, hcc, hfr, _, _⟩ := Kd.S_elem hS5 z42 (xn : Int) (by omega) (by have := HXL.out; omega)
     simp only [Int.toNat_natCast] at hM hcc hfr
     obtain ⟨e5, e6, rfl, _, _⟩ := k42_openM hM
     have x0 : w4_.cell? ⟨go, xn * 7, none⟩ = some (.int .i64 (l.getD xn z42).f0) := hcc 0 _ rfl
     have x1 : w4_.cell? ⟨go, xn * 7 + 1, none⟩ = some (.int .i64 (l.getD xn z42).f1) := hcc 1 _ rfl
     have x2 : w4_.cell? ⟨go, xn * 7 + 2, none⟩ = some (.int .i64 (l.getD xn z42).f2) := hcc 2 _ rfl
     have x3 : w4_.cell? ⟨go, xn * 7 + 3, none⟩ = some (.int .i64 (l.getD xn z42).f3) := hcc 3 _ rfl
     have x4 : w4_.cell? ⟨go, xn * 7 + 4, none⟩ = some (.int .i64 (l.getD xn z42).f4) := hcc 4 _ rfl
     have x5 : w4_.cell? ⟨go, xn * 7 + 5, none⟩ = some (e5) := hcc 5 _ rfl
     have x6 : w4_.cell? ⟨go, xn * 7 + 6, none⟩ = some (e6) := hcc 6 _ rfl
     have z0 : w4_.frozen? ⟨go, xn * 7, none⟩ = false := hfr 0
     have z1 : w4_.frozen? ⟨go, xn * 7 + 1, none⟩ = false := hfr 1
     have z2 : w4_.frozen? ⟨go, xn * 7 + 2, none⟩ = false := hfr 2
     have z3 : w4_.frozen? ⟨go, xn * 7 + 3, none⟩ = false := hfr 3
     have z4 : w4_.frozen? ⟨go, xn * 7 + 4, none⟩ = false := hfr 4
     have z5 : w4_.frozen? ⟨go, xn * 7 + 5, none⟩ = false := hfr 5
     have z6 : w4_.frozen? ⟨go, xn * 7 + 6, none⟩ = false := hfr 6
     refine skipE_ (w1 := (((((((w4_.setCell ⟨go, xn * 7, none⟩ (.int .i64 y.f0)).setCell ⟨go, xn * 7 + 1, none⟩ (.int .i64 (mn : Int))).setCell ⟨go, xn * 7 + 2, none⟩ (.int .i64 k5)).setCell ⟨go, xn * 7 + 3, none⟩ (.int .i64 k6)).setCell ⟨go, xn * 7 + 4, none⟩ (.int .i64 ro)).setCell ⟨go, xn * 7 + 5, none⟩ (.slice (some ⟨gi, 0, none⟩) P.length ci)).setCell ⟨go, xn * 7 + 6, none⟩ (.slice A6 y.f6.length c6))) (by rfl) rfl (by first | (go_simp; done) | (go_simp; rfl)) (fun w5_ hw => ?_)
     have hx6 : w4_.cell? ⟨go, (xn : Int).toNat * 7 + 6, none⟩ = some (.slice A6 y.f6.length c6) := (HX6.out w4_ (HBW4.out.trans (HB34.out.mono HBW4.out.size)))
     have HS6_ : Aside0 (Kd.S k42 42 w5_ w5.heap.size (fun _ => True) (.slice (some ⟨go, 0, none⟩) l.length co) (l.set (xn : Int).toNat (takeC (rd_T42 l (xn : Int)) z))) := ⟨by rw [hw]; have h_ := S_put5 (v6 := .slice A6 y.f6.length c6) (Kd.S_mono (Kd.S_below HS4.out HB34.out) (fun k hk e => by have h1_ := Kd.R_base HR4.out k e.symm; have h2_ : k < W'.heap.size := hk; omega)) (Kd.R_lower (Kd.R_below HR4.out HB34.out) (Nat.le_trans (Nat.le_of_lt (Nat.lt_of_le_of_lt PG.out.1 PG.out.2)) HBWW.out.size)) (xn : Int) (by omega) (by have := HXL.out; omega) hx6 y.f0 (mn : Int) k5 k6 ro; rw [HTK.out] at h_; exact h_⟩
     have KX_5 : Aside0 (w5_.heap[Bx]? = some (.cells #[.int .i64 (xn : Int)] 3 (0, 0))) := ⟨by rw [hw]; exact blk_far7 (blk_below KX_4.out HB34.out) (fun e => by have h_ := PGO.out; omega) (xn * 7) _ _ _ _ _ _ _⟩
     have K3_5 : Aside0 (w5_.heap[g3]? = some (.cells #[.int .i64 (gn : Int), .int .i64 (bn : Int)] 24 (0, 0))) := ⟨by rw [hw]; exact blk_far7 (blk_below K3_4.out HB34.out) (fun e => by have h_ := PGO.out; omega) (xn * 7) _ _ _ _ _ _ _⟩
     have K4_5 : Aside0 (w5_.heap[g4]? = some (.cells #[.slice none 0 0] 22 (0, 0))) := ⟨by rw [hw]; exact blk_far7 (blk_below K4_4.out HB34.out) (fun e => by have h_ := PGO.out; omega) (xn * 7) _ _ _ _ _ _ _⟩
     have K5_5 : Aside0 (w5_.heap[g5]? = some (.cells #[.int .i64 0, .int .i64 0] 24 (0, 0))) := ⟨by rw [hw]; exact blk_far7 (blk_below K5_4.out HB34.out) (fun e => by have h_ := PGO.out; omega) (xn * 7) _ _ _ _ _ _ _⟩
     have K6_5 : Aside0 (w5_.heap[g6]? = some (.cells #[.int .i64 0] 26 (0, 0))) := ⟨by rw [hw]; exact blk_far7 (blk_below K6_4.out HB34.out) (fun e => by have h_ := PGO.out; omega) (xn * 7) _ _ _ _ _ _ _⟩
     have K8_5 : Aside0 (w5_.heap[g8]? = some (.cells #[.slice (some ⟨go, 0, none⟩) l.length co] 22 (0, 0))) := ⟨by rw [hw]; exact blk_far7 (blk_below K8_4.out HB34.out) (fun e => by have h_ := PGO.out; omega) (xn * 7) _ _ _ _ _ _ _⟩
     have HBW5 : Aside0 (Below w.heap.size w w5_) := ⟨by rw [hw]; exact below_set7 (HB9.out.trans ((HBW.out.mono HB9.out.size).trans ((HBW4.out.mono (Nat.le_trans HB9.out.size HBW.out.size)).trans (HB34.out.mono (Nat.le_trans (Nat.le_trans HB9.out.size HBW.out.size) HBW4.out.size))))) (Nat.le_trans SZ5.out PG.out.1) (xn * 7) _ _ _ _ _ _ _⟩
     have HKF5 : Aside0 (KeepsFrom w9.heap.size W w5_) := ⟨by rw [hw]; exact (HKF4.out.trans (keeps_below HB34.out)).trans ((KeepsOthers.set7 go (xn * 7) _ _ _ _ _ _ _).from _)⟩
     have HKO5 : Aside0 (KeepsFrom 0 W' w5_) := ⟨by rw [hw]; exact (HKO4.out.trans (keeps_below HB34.out)).trans ((KeepsOthers.set7 go (xn * 7) _ _ _ _ _ _ _).from _)⟩
     clear hx6 hS5 hM hcc hfr x0 x1 x2 x3 x4 x5 x6 z0 z1 z2 z3 z4 z5 z6
     clear hw
     refine hK.out _ _ ?_
     clear hK K
     refine done_ (done_of HT_.out (by kernel_rfl)) ?_
     simp only [Rnd.shutQ]
     gi_wp2
     have s0 : w5_.cell? ⟨g8, 0, none⟩ = some (.slice (some ⟨go, 0, none⟩) l.length co) := (blk_cell K8_5.out 0).trans rfl
     have s1 : w5_.cell? ⟨Bx, 0, none⟩ = some (.int .i64 (xn : Int)) := (blk_cell KX_5.out 0).trans rfl
     have k4_ : w5_.cell? ⟨g4, 0, none⟩ = some (.slice none 0 0) := (blk_cell K4_5.out 0).trans rfl
     have f4_ := blk_frozen K4_5.out 0
     have k5_ : w5_.cell? ⟨g5, 0, none⟩ = some (.int .i64 0) := (blk_cell K5_5.out 0).trans rfl
     have f5_ := blk_frozen K5_5.out 0
     have k5a_ : w5_.cell? ⟨g5, 1, none⟩ = some (.int .i64 0) := (blk_cell K5_5.out 1).trans rfl
     have f5a_ := blk_frozen K5_5.out 1
     have k6_ : w5_.cell? ⟨g6, 0, none⟩ = some (.int .i64 0) := (blk_cell K6_5.out 0).trans rfl
     have f6_ := blk_frozen K6_5.out 0
     have n45 := D45.out
     have n46 := D46.out
     have n56 := D56.out
     have n54 := D45.out.symm
     have n64 := D46.out.symm
     have n65 := D56.out.symm
     refine Rnd.start_in (lr := l2) (k := 7) (S := fun w' => w'.cell? ⟨g8, 0, none⟩ = some (.slice (some ⟨go, 0, none⟩) l.length co) ∧ w'.cell? ⟨Bx, 0, none⟩ = some (.int .i64 (xn : Int))) (ds := [5, 6]) #[false, false, false, false, false, false, false] (by kernel_rfl) (by kernel_rfl) rfl rfl ⟨s0, s1⟩ (fun hHeld => ?_); refine with_tabW tk_tab17 tk_bits17 (fun HT_ HW_ => ?_)
     refine take_ (i := 0) (N := some 69) (v := ?_) (a' := ?_) #[true, false, false, false, false, false, false] rfl rfl (take_ofW HT_.out HW_.out (by kernel_rfl)) (fun _ _ _ h => h) (Or.inl ⟨by rfl, ?_⟩) hHeld ?_ ?_
     rotate_left
     ·rintro w' ⟨s0, s1⟩
      go_simp
      with_reducible rfl
     rotate_left
     ·go_simp
      rfl
     refine take_ (i := 1) (N := some 70) (v := ?_) (a' := ?_) #[true, true, false, false, false, false, false] rfl rfl (take_ofW HT_.out HW_.out (by kernel_rfl)) (fun _ _ _ h => h) (Or.inl ⟨by rfl, ?_⟩) hHeld ?_ ?_
     rotate_left
     ·rintro w' ⟨s0, s1⟩
      go_simp
      with_reducible rfl
     rotate_left
     ·go_simp
      rfl
     refine pure_ (i := 2) (N := some 71) (v := ?_) (a' := ?_) #[true, true, true, false, false, false, false] rfl rfl (any_of HT_.out (by kernel_rfl)) (fun _ _ _ h => h) (Or.inl ⟨by rfl, ?_⟩) ?_ ?_
     rotate_left
     ·intro w'
      go_simp
      with_reducible rfl
     rotate_left
     ·go_simp
      rfl
     refine pure_ (i := 3) (N := some 72) (v := ?_) (a' := ?_) #[true, true, true, true, false, false, false] rfl rfl (any_of HT_.out (by kernel_rfl)) (fun _ _ _ h => h) (Or.inl ⟨by rfl, ?_⟩) ?_ ?_
     rotate_left
     ·intro w'
      go_simp
      with_reducible rfl
     rotate_left
     ·go_simp
      rfl
     refine one_ (i := 4) (N := none) #[true, true, true, true, true, false, false] rfl rfl (one_of HT_.out (by kernel_rfl)) (by decide) (fun K hK => ?_)
     refine skip_ (w1 := ?_) (by rfl) rfl ?_ ?_
     rotate_left
     ·go_simp
      rfl
     refine hK.out _ _ ⟨(blk_cell (blk_drew (blk_far K8_5.out (p := ⟨g4, 0, none⟩) (fun e => D48.out e.symm) _)) 0).trans rfl, (blk_cell (blk_drew (blk_far KX_5.out (p := ⟨g4, 0, none⟩) (blk_ne KX_5.out K4_5.out (by decide)) _)) 0).trans rfl⟩ (fun hHeld => ?_)
     clear hK K
     refine last_ (i := 5) (N := none) #[true, true, true, true, true, true, false] rfl rfl (one_of HT_.out (by kernel_rfl)) (by decide) (fun K hK => ?_)
     refine skip_ (w1 := ?_) (by rfl) rfl ?_ ?_
     rotate_left
     ·go_simp
      rfl
     refine hK.out _ _ ?_
     clear hK K
     refine last_ (i := 6) (N := none) #[true, true, true, true, true, true, true] rfl rfl (one_of HT_.out (by kernel_rfl)) (by decide) (fun K hK => ?_)
     refine skipE_ (w1 := ((((w5_.drew.setCell ⟨g4, 0, none⟩ (.slice (some ⟨go, 0, none⟩) l.length co)).setCell ⟨g5, 0, none⟩ (.int .i64 (xn : Int))).setCell ⟨g5, 1, none⟩ (.int .i64 z)).setCell ⟨g6, 0, none⟩ (.int .i64 0))) (by rfl) rfl (by first | (go_simp; done) | (go_simp; rfl)) (fun w6_ hw => ?_)
     have K4_6 : Aside0 (w6_.heap[g4]? = some (.cells #[.slice (some ⟨go, 0, none⟩) l.length co] 22 (0, 0))) := ⟨by rw [hw]; exact blk_far (blk_far (blk_far (blk_put (blk_drew K4_5.out) 0 (.slice (some ⟨go, 0, none⟩) l.length co) rfl) (p := ⟨g5, 0, none⟩) D45.out _) (p := ⟨g5, 1, none⟩) D45.out _) (p := ⟨g6, 0, none⟩) D46.out _⟩
     have K5_6 : Aside0 (w6_.heap[g5]? = some (.cells #[.int .i64 (xn : Int), .int .i64 z] 24 (0, 0))) := ⟨by rw [hw]; exact blk_far (blk_put2 (blk_far (blk_drew K5_5.out) (p := ⟨g4, 0, none⟩) (fun e => D45.out e.symm) _) rfl _ _) (p := ⟨g6, 0, none⟩) D56.out _⟩
     have K6_6 : Aside0 (w6_.heap[g6]? = some (.cells #[.int .i64 0] 26 (0, 0))) := ⟨by rw [hw]; exact blk_put (blk_far (blk_far (blk_far (blk_drew K6_5.out) (p := ⟨g4, 0, none⟩) (fun e => D46.out e.symm) _) (p := ⟨g5, 0, none⟩) (fun e => D56.out e.symm) _) (p := ⟨g5, 1, none⟩) (fun e => D56.out e.symm) _) 0 _ rfl⟩
     have HS7_ : Aside0 (Kd.S k42 42 w6_ w.heap.size (fun _ => True) (.slice (some ⟨go, 0, none⟩) l.length co) (l.set (xn : Int).toNat (takeC (rd_T42 l (xn : Int)) z))) := ⟨by rw [hw]; exact Kd.S_lower (Kd.S_mono (Kd.S_far (Kd.S_far (Kd.S_far (Kd.S_far (Kd.S_drew (Kd.S_types (Kd.S_types (Kd.S_types HS6_.out K4_5.out (by decide)) K5_5.out (by decide)) K6_5.out (by decide))) (p := ⟨g4, 0, none⟩) (fun k hk => hk.1.1.2) _) (p := ⟨g5, 0, none⟩) (fun k hk => hk.1.2) _) (p := ⟨g5, 1, none⟩) (fun k hk => hk.1.2) _) (p := ⟨g6, 0, none⟩) (fun k hk => hk.2) _) (fun _ _ => trivial)) SZ5.out⟩
     have HBW6 : Aside0 (Below w.heap.size w w6_) := ⟨by rw [hw]; exact ((((below_drew HBW5.out).setCell (p := ⟨g4, 0, none⟩) P4.out _).setCell (p := ⟨g5, 0, none⟩) P5.out _).setCell (p := ⟨g5, 1, none⟩) P5.out _).setCell (p := ⟨g6, 0, none⟩) P6.out _⟩
     have HKF6 : Aside0 (KeepsFrom w9.heap.size W w6_) := ⟨by rw [hw]; exact HKF5.out.trans (((((KeepsOthers.drew _).trans (KeepsOthers.setCell _ _ _)).trans (KeepsOthers.setCell _ _ _)).trans ((KeepsOthers.setCell _ _ _).trans (KeepsOthers.setCell _ _ _))).from _)⟩
     have HKO6 : Aside0 (KeepsFrom 0 W' w6_) := ⟨by rw [hw]; exact HKO5.out.trans (((((KeepsOthers.drew _).trans (KeepsOthers.setCell _ _ _)).trans (KeepsOthers.setCell _ _ _)).trans ((KeepsOthers.setCell _ _ _).trans (KeepsOthers.setCell _ _ _))).from _)⟩
     clear hw
     refine hK.out _ _ ?_
     clear hK K
     refine done_ (done_of HT_.out (by kernel_rfl)) ?_
     simp only [Rnd.shutQ]
     gi_wp2
     exact ⟨keeps_up HKO6.out, ⟨rfl, pre', ⟨z, ⟨HZ.out.1, HZ.out.2⟩⟩, rfl, HQ.out, HCZ.out, ⟨K4_6.out, K5_6.out, K6_6.out, HS7_.out, HBW6.out⟩, HKF6.out⟩⟩
   case done2m =>
    rintro ys W' hS ⟨hq, hBW2, hKF⟩
    gi_wp2
    refine ⟨hKF, HBc.out.mono HBW.out.size |>.trans (hBW2.mono (Nat.le_trans HBW.out.size HBc.out.size)), ⟨fun t ht => ?_, HBW.out.trans ((HBc.out.mono HBW.out.size).trans (hBW2.mono (Nat.le_trans HBW.out.size HBc.out.size)))⟩⟩
    rcases List.mem_append.1 ht with ht | ht
    ·exact HFULL.out t ht
    ·obtain rfl := List.mem_singleton.1 ht
     show freeAt l (gn : Int) (bn : Int) (xn : Int) = none
     rw [HFR.out, List.find?_eq_none]
     intro t ht
     rw [← hS] at ht
     obtain ⟨s, hs, rfl⟩ := List.mem_map.1 ht
     rw [hq s hs]; decide
   case stop2m =>
    rintro c pre' W' hpre ⟨rfl, p, z, rfl, hp, hz, hfin, hKF⟩
    gi_wp2
    refine ⟨hKF, ⟨rfl, pre, _, z.1, rfl, HFULL.out, ?_, hfin⟩⟩
    show freeAt l (gn : Int) (bn : Int) (xn : Int) = some z.1
    obtain ⟨sfx, hsfx⟩ := hpre
    rw [HFR.out, ← hsfx, List.map_append, List.append_assoc, List.find?_append, List.find?_eq_none.2 (fun t ht => by obtain ⟨s, hs, rfl⟩ := List.mem_map.1 ht; rw [hp s hs]; decide), Option.none_or]
    show ((z.1 :: sfx).find? (fun t => !y.f5.contains t)) = some z.1
    rw [List.find?_cons, hz]
    rfl
 case stop =>
  rintro D c pre W hD hpre ⟨rfl, p, x, z, rfl, hp, hz, h4, h5, h6, hS, hB⟩ hK
  gi_wp2
  refine ⟨by simp, .inl ⟨_, _, rfl, run_takeDeferred hK, ?_⟩⟩
  have hg := grownBy_putObj' W D (.deferred none)
  have hnD : ∀ {k : Nat} {cs : Array Value} {t : Nat}, W.heap[k]? = some (.cells cs t (0, 0)) → k ≠ D := fun h e => by subst e; rw [hK] at h; cases h
  have c4 : (W.putObj D (.deferred none)).cell? ⟨g4, 0, none⟩ = some (.slice (some ⟨go, 0, none⟩) l.length co) := (blk_cell ((hg.block g4 (blk_lt h4) (fun e => hnD h4 (Option.some.inj e))).trans h4) 0).trans rfl
  have c5 : (W.putObj D (.deferred none)).cell? ⟨g5, 0, none⟩ = some (.int .i64 x.1) := (blk_cell ((hg.block g5 (blk_lt h5) (fun e => hnD h5 (Option.some.inj e))).trans h5) 0).trans rfl
  have c5a : (W.putObj D (.deferred none)).cell? ⟨g5, 1, none⟩ = some (.int .i64 z) := (blk_cell ((hg.block g5 (blk_lt h5) (fun e => hnD h5 (Option.some.inj e))).trans h5) 1).trans rfl
  have c6 : (W.putObj D (.deferred none)).cell? ⟨g6, 0, none⟩ = some (.int .i64 0) := (blk_cell ((hg.block g6 (blk_lt h6) (fun e => hnD h6 (Option.some.inj e))).trans h6) 0).trans rfl
  have hfs : (roundL gn l.length).findSome? (fun x => (freeAt l (gn : Int) (bn : Int) x).map (fun y => (x, y))) = some (x.1, z) := by
   obtain ⟨sfx, hsfx⟩ := hpre
   rw [← hsfx, List.map_append, List.append_assoc, List.findSome?_append, List.findSome?_eq_none_iff.2 (fun t ht => by obtain ⟨s, hs, rfl⟩ := List.mem_map.1 ht; rw [hp s hs]; rfl), Option.none_or]
   show List.findSome? _ (x.1 :: sfx) = _
   rw [List.findSome?_cons, hz]
   rfl
  have hT : takeS l (gn : Int) (bn : Int) = (l.set x.1.toNat (takeC (rd_T42 l x.1) z), x.1, z, 0) := by
   unfold takeS
   rw [if_neg (by rw [HM0.out]; decide), Int.toNat_natCast, hfs]
  rw [hT]
  refine ⟨.tuple #[.slice (some ⟨go, 0, none⟩) l.length co, .agg #[.int .i64 x.1, .int .i64 z], .int .i64 0], ?_, ⟨_, rfl, ?_, ?_⟩⟩
  ·simp [results, Try.f13, go_sem, c4, c5, c5a, c6]
  ·exact Kd.S_mono (Kd.S_grown (Kd.S_bound hS) hg (fun k hk e => by obtain ⟨_, _, _, q, _, cs, hc⟩ := hk; exact hnD hc (Option.some.inj e))) (fun _ _ => trivial)
  ·exact hB.trans (belowK_b (Nat.le_refl _) W D _ _ (Nat.le_trans HB9.out.size hD) hK rfl rfl)
 case done =>
  rintro D xs W hD hxs ⟨hq, hB⟩ hK
  have K4_D := Aside0.mk (blk_below K49.out hB)
  have K5_D := Aside0.mk (blk_below K59.out hB)
  have K6_D := Aside0.mk (blk_below K69.out hB)
  have HK := Aside0.mk hK
  have HQ := Aside0.mk hq
  have HB := Aside0.mk hB
  have HXS := Aside0.mk hxs
  have HD := Aside0.mk hD
  have k4_ : W.cell? ⟨g4, 0, none⟩ = some (.slice none 0 0) := (blk_cell K4_D.out 0).trans rfl
  have f4_ := blk_frozen K4_D.out 0
  have k5_ : W.cell? ⟨g5, 0, none⟩ = some (.int .i64 0) := (blk_cell K5_D.out 0).trans rfl
  have f5_ := blk_frozen K5_D.out 0
  have k5a_ : W.cell? ⟨g5, 1, none⟩ = some (.int .i64 0) := (blk_cell K5_D.out 1).trans rfl
  have f5a_ := blk_frozen K5_D.out 1
  have k6_ : W.cell? ⟨g6, 0, none⟩ = some (.int .i64 0) := (blk_cell K6_D.out 0).trans rfl
  have f6_ := blk_frozen K6_D.out 0
  have n45 := D45.out
  have n46 := D46.out
  have n56 := D56.out
  have n54 := D45.out.symm
  have n64 := D46.out.symm
  have n65 := D56.out.symm
  clear hK hq hB hxs hD
  gi_wp2
  go_wp2

  obtain ⟨w6_, hw⟩ : ∃ w6_, ((((W.setCell ⟨g4, 0, none⟩ (.slice none 0 0)).setCell ⟨g5, 0, none⟩ (.int .i64 0)).setCell ⟨g5, 1, none⟩ (.int .i64 0)).setCell ⟨g6, 0, none⟩ (.int .i64 4)) = w6_ := ⟨_, rfl⟩
  rw [hw]
  have K4_6 : Aside0 (w6_.heap[g4]? = some (.cells #[.slice none 0 0] 22 (0, 0))) := ⟨by rw [← hw]; exact blk_far (blk_far (blk_far (blk_put K4_D.out 0 (.slice none 0 0) rfl) (p := ⟨g5, 0, none⟩) D45.out _) (p := ⟨g5, 1, none⟩) D45.out _) (p := ⟨g6, 0, none⟩) D46.out _⟩
  have K5_6 : Aside0 (w6_.heap[g5]? = some (.cells #[.int .i64 0, .int .i64 0] 24 (0, 0))) := ⟨by rw [← hw]; exact blk_far (blk_put2 (blk_far K5_D.out (p := ⟨g4, 0, none⟩) (fun e => D45.out e.symm) _) rfl _ _) (p := ⟨g6, 0, none⟩) D56.out _⟩
  have K6_6 : Aside0 (w6_.heap[g6]? = some (.cells #[.int .i64 4] 26 (0, 0))) := ⟨by rw [← hw]; exact blk_put (blk_far (blk_far (blk_far K6_D.out (p := ⟨g4, 0, none⟩) (fun e => D46.out e.symm) _) (p := ⟨g5, 0, none⟩) (fun e => D56.out e.symm) _) (p := ⟨g5, 1, none⟩) (fun e => D56.out e.symm) _) 0 _ rfl⟩
  have HBW6 : Aside0 (Below w.heap.size w w6_) := ⟨by rw [← hw]; exact ((((HB9.out.trans (HB.out.mono HB9.out.size)).setCell (p := ⟨g4, 0, none⟩) P4.out _).setCell (p := ⟨g5, 0, none⟩) P5.out _).setCell (p := ⟨g5, 1, none⟩) P5.out _).setCell (p := ⟨g6, 0, none⟩) P6.out _⟩
  have HK6 : Aside0 (w6_.heap[D]? = some (.deferred (some []))) := ⟨by rw [← hw]; exact (((KeepsOthers.setCell _ _ _).trans (KeepsOthers.setCell _ _ _)).trans ((KeepsOthers.setCell _ _ _).trans (KeepsOthers.setCell _ _ _))).same D _ HK.out rfl⟩
  refine ⟨by simp, .inl ⟨_, _, rfl, run_takeDeferred HK6.out, ?_⟩⟩
  have hg := grownBy_putObj' w6_ D (.deferred none)
  have hnD : ∀ {k : Nat} {cs : Array Value} {t : Nat}, w6_.heap[k]? = some (.cells cs t (0, 0)) → k ≠ D := fun h e => by subst e; rw [HK6.out] at h; cases h
  have h4 := K4_6.out
  have h5 := K5_6.out
  have h6 := K6_6.out
  have c4 : (w6_.putObj D (.deferred none)).cell? ⟨g4, 0, none⟩ = some (.slice none 0 0) := (blk_cell ((hg.block g4 (blk_lt h4) (fun e => hnD h4 (Option.some.inj e))).trans h4) 0).trans rfl
  have c5 : (w6_.putObj D (.deferred none)).cell? ⟨g5, 0, none⟩ = some (.int .i64 0) := (blk_cell ((hg.block g5 (blk_lt h5) (fun e => hnD h5 (Option.some.inj e))).trans h5) 0).trans rfl
  have c5a : (w6_.putObj D (.deferred none)).cell? ⟨g5, 1, none⟩ = some (.int .i64 0) := (blk_cell ((hg.block g5 (blk_lt h5) (fun e => hnD h5 (Option.some.inj e))).trans h5) 1).trans rfl
  have c6 : (w6_.putObj D (.deferred none)).cell? ⟨g6, 0, none⟩ = some (.int .i64 4) := (blk_cell ((hg.block g6 (blk_lt h6) (fun e => hnD h6 (Option.some.inj e))).trans h6) 0).trans rfl
  have hT : takeS l (gn : Int) (bn : Int) = ([], 0, 0, 4) := by
   unfold takeS
   rw [if_neg (by rw [HM0.out]; decide), Int.toNat_natCast, ← HXS.out, List.findSome?_eq_none_iff.2 (fun t ht => by obtain ⟨s, hs, rfl⟩ := List.mem_map.1 ht; rw [HQ.out s hs]; rfl)]
  rw [hT]
  refine ⟨.tuple #[.slice none 0 0, .agg #[.int .i64 0, .int .i64 0], .int .i64 4], ?_, ⟨_, rfl, ?_, ?_⟩⟩
  ·simp [results, Try.f13, go_sem, c4, c5, c5a, c6]
  ·exact Kd.S_nil _ _ _ _ _
  ·exact HBW6.out.trans (belowK_b (Nat.le_refl _) w6_ D _ _ (Nat.le_trans HB9.out.size HD.out) HK6.out rfl rfl)
set_option maxHeartbeats 8000000 in
set_option maxRecDepth 100000 in
theorem take_bad (A0 : Option Addr) (c0 : Nat) (l : List S42) (a b r : Int) (w : World) (hC : Kd.C k42 w A0 l.length l) (hc0 : l.length ≤ c0) (hsm : SmallL l) (hm : mayS l a b 46 = r) (hr : r ≠ 0) :
  Calls Try.prog 13 #[.slice A0 l.length c0, .agg #[.int .i64 a, .int .i64 b]] w fun e w' => e = .returned (.tuple #[.slice none 0 0, .agg #[.int .i64 0, .int .i64 0], .int .i64 r]) ∧ Below w.heap.size w w' := by
 have hmay : cyl_may.f l a b 46 = some r := by
  unfold cyl_may.f
  rw [if_pos ⟨hsm, .inl rfl⟩, hm]
 have HC := Aside0.mk hC
 have HCC := Aside0.mk hc0
 have HMAY := Aside0.mk hmay
 have hr1 : (r == 0) = false := by rw [beq_eq_false_iff_ne]; exact hr
 have hr2 : (r != 0) = true := by rw [bne_iff_ne]; exact hr
 clear hC hc0 hsm hmay hm
 have hu42 := Try.underlying42
 have hu24 := Try.underlying24
 refine (callsIn_wide (n := 12)).1 ?_
 refine callsIn_of_wp_marks Try.func13 rfl trivial ?_ rfl
 simp only [Try.ntmps13, List.size_toArray, List.length_cons, List.length_nil, Nat.reduceAdd, Nat.reduceSub, Array.replicate_succ, Array.replicate_zero, List.push_toArray, List.append_toArray, List.nil_append, List.cons_append]
 refine wpIn_wide.2 ?_
 go_upto_region 1 with (first | ((with_reducible refine gate_dst (N := 3) rfl ?_); refine box_event rfl (N := 3) rfl (cs := #[.int .i64 a, .int .i64 b]) (t := 24) (by first | (go_simp; done) | (go_simp; rfl)) ?_; intro g3 hg w1 hbox hb; have K3 := Aside0.mk hbox; have HB1 := Aside0.mk hb; have P3 := Aside0.mk (show w.heap.size ≤ g3 by omega); clear hb hbox hg) | ((with_reducible refine gate_dst (N := 4) rfl ?_); refine box_event rfl (N := 4) rfl (cs := #[.slice none 0 0]) (t := 22) (by first | (go_simp; done) | (go_simp; rfl)) ?_; intro g4 hg w2 hbox hb; have K4 := Aside0.mk hbox; have K32 := Aside0.mk (blk_below K3.out hb); have P4 := Aside0.mk (show w.heap.size ≤ g4 by rw [hg]; exact HB1.out.size); have HB2 := Aside0.mk (below_step HB1.out hb); clear K3 HB1; clear hb hbox hg) | ((with_reducible refine gate_dst (N := 5) rfl ?_); refine box_event rfl (N := 5) rfl (cs := #[.int .i64 0, .int .i64 0]) (t := 24) (by first | (go_simp; done) | (go_simp; rfl)) ?_; intro g5 hg w3 hbox hb; have K5 := Aside0.mk hbox; have K33 := Aside0.mk (blk_below K32.out hb); have K43 := Aside0.mk (blk_below K4.out hb); have P5 := Aside0.mk (show w.heap.size ≤ g5 by rw [hg]; exact HB2.out.size); have D45 := Aside0.mk (show g4 ≠ g5 by rw [hg]; have := blk_lt K4.out; omega); have HB3 := Aside0.mk (below_step HB2.out hb); clear K32 K4 HB2; clear hb hbox hg) | ((with_reducible refine gate_dst (N := 6) rfl ?_); refine box_event rfl (N := 6) rfl (cs := #[.int .i64 0]) (t := 26) (by first | (go_simp; done) | (go_simp; rfl)) ?_; intro g6 hg w4 hbox hb; have K6 := Aside0.mk hbox; have K34 := Aside0.mk (blk_below K33.out hb); have K44 := Aside0.mk (blk_below K43.out hb); have K54 := Aside0.mk (blk_below K5.out hb); have P6 := Aside0.mk (show w.heap.size ≤ g6 by rw [hg]; exact HB3.out.size); have D46 := Aside0.mk (show g4 ≠ g6 by rw [hg]; have := blk_lt K43.out; omega); have D56 := Aside0.mk (show g5 ≠ g6 by rw [hg]; have := blk_lt K5.out; omega); have HB4 := Aside0.mk (below_step HB3.out hb); clear K33 K43 K5 HB3; clear hb hbox hg))
 obtain ⟨c0_, c1_⟩ := c2 K34
 go_upto_region 2 with (go_at_call 45; refine (cyl_may.calls A0 c0 l a b 46 r w4 (Kd.C_below HC.out HB4.out) HCC.out HMAY.out).mono ?_; rintro e w5 ⟨rfl, hb⟩; have K45 := Aside0.mk (blk_below K44.out hb); have K55 := Aside0.mk (blk_below K54.out hb); have K65 := Aside0.mk (blk_below K6.out hb); have HB5 := Aside0.mk (below_step HB4.out hb); clear hb K34 K44 K54 K6 HB4 c0_ c1_)
 have k4_ : w5.cell? ⟨g4, 0, none⟩ = some (.slice none 0 0) := (blk_cell K45.out 0).trans rfl
 have f4_ := blk_frozen K45.out 0
 have k5_ : w5.cell? ⟨g5, 0, none⟩ = some (.int .i64 0) := (blk_cell K55.out 0).trans rfl
 have f5_ := blk_frozen K55.out 0
 have k5a_ : w5.cell? ⟨g5, 1, none⟩ = some (.int .i64 0) := (blk_cell K55.out 1).trans rfl
 have f5a_ := blk_frozen K55.out 1
 have k6_ : w5.cell? ⟨g6, 0, none⟩ = some (.int .i64 0) := (blk_cell K65.out 0).trans rfl
 have f6_ := blk_frozen K65.out 0
 have n45 := D45.out
 have n46 := D46.out
 have n56 := D56.out
 have n54 := D45.out.symm
 have n64 := D46.out.symm
 have n65 := D56.out.symm
 go_wp2
 obtain ⟨w6_, hw⟩ : ∃ w6_, ((((w5.setCell ⟨g4, 0, none⟩ (.slice none 0 0)).setCell ⟨g5, 0, none⟩ (.int .i64 0)).setCell ⟨g5, 1, none⟩ (.int .i64 0)).setCell ⟨g6, 0, none⟩ (.int .i64 r)) = w6_ := ⟨_, rfl⟩
 rw [hw]
 have K4_6 : w6_.heap[g4]? = some (.cells #[.slice none 0 0] 22 (0, 0)) := by rw [← hw]; exact blk_far (blk_far (blk_far (blk_put K45.out 0 (.slice none 0 0) rfl) (p := ⟨g5, 0, none⟩) D45.out _) (p := ⟨g5, 1, none⟩) D45.out _) (p := ⟨g6, 0, none⟩) D46.out _
 have K5_6 : w6_.heap[g5]? = some (.cells #[.int .i64 0, .int .i64 0] 24 (0, 0)) := by rw [← hw]; exact blk_far (blk_put2 (blk_far K55.out (p := ⟨g4, 0, none⟩) (fun e => D45.out e.symm) _) rfl _ _) (p := ⟨g6, 0, none⟩) D56.out _
 have K6_6 : w6_.heap[g6]? = some (.cells #[.int .i64 r] 26 (0, 0)) := by rw [← hw]; exact blk_put (blk_far (blk_far (blk_far K65.out (p := ⟨g4, 0, none⟩) (fun e => D46.out e.symm) _) (p := ⟨g5, 0, none⟩) (fun e => D56.out e.symm) _) (p := ⟨g5, 1, none⟩) (fun e => D56.out e.symm) _) 0 _ rfl
 have HBW6 : Below w.heap.size w w6_ := by rw [← hw]; exact (((HB5.out.setCell (p := ⟨g4, 0, none⟩) P4.out _).setCell (p := ⟨g5, 0, none⟩) P5.out _).setCell (p := ⟨g5, 1, none⟩) P5.out _).setCell (p := ⟨g6, 0, none⟩) P6.out _
 have c4 : w6_.cell? ⟨g4, 0, none⟩ = some (.slice none 0 0) := (blk_cell K4_6 0).trans rfl
 have c5 : w6_.cell? ⟨g5, 0, none⟩ = some (.int .i64 0) := (blk_cell K5_6 0).trans rfl
 have c5a : w6_.cell? ⟨g5, 1, none⟩ = some (.int .i64 0) := (blk_cell K5_6 1).trans rfl
 have c6 : w6_.cell? ⟨g6, 0, none⟩ = some (.int .i64 r) := (blk_cell K6_6 0).trans rfl
 refine ⟨.tuple #[.slice none 0 0, .agg #[.int .i64 0, .int .i64 0], .int .i64 r], ?_, rfl, HBW6⟩
 simp [results, Try.f13, go_sem, c4, c5, c5a, c6]
/-- What Take answers, for groups that are not too many. -/
def cyl_Take.f (l : List S42) (a b : Int) : Option (List S42 × Int × Int × Int) := if SmallL l then some (takeS l a b) else none
theorem cyl_Take.calls_ (A0 : Option Addr) (c0 : Nat) (l0 : List S42) (a b : Int) (r : List S42 × Int × Int × Int) (w : World) (hr0 : Kd.C k42 w A0 l0.length l0) (hc0 : l0.length ≤ c0) (h : cyl_Take.f l0 a b = some r) :
  Calls Try.prog 13 #[.slice A0 l0.length c0, .agg #[.int .i64 a, .int .i64 b]] w fun e w' => ∃ v, e = .returned (.tuple #[v, .agg #[.int .i64 r.2.1, .int .i64 r.2.2.1], .int .i64 r.2.2.2]) ∧ Kd.S k42 42 w' w.heap.size (fun _ => True) v r.1 ∧ Below w.heap.size w w' := by
 unfold cyl_Take.f at h
 by_cases hs : SmallL l0
 ·rw [if_pos hs] at h
  injection h with h
  subst h
  by_cases hm : mayS l0 a b 46 = 0
  ·have hwb : wholeB l0 = true := by
    cases hw : wholeB l0 with
    | true => rfl
    | false => unfold mayS at hm; rw [hw, if_pos rfl] at hm; cases hm
   have hgb : 0 ≤ a ∧ 0 ≤ b := by
    unfold mayS at hm
    rw [hwb, if_neg (by decide)] at hm
    by_cases hh : a < 0 ∨ (l0.length : Int) ≤ a ∨ b < 0 ∨ manyS 46 (rd_T42 l0 a) ≤ b
    ·rw [if_pos hh] at hm; cases hm
    ·omega
   obtain ⟨gn, rfl⟩ := Int.eq_ofNat_of_zero_le hgb.1
   obtain ⟨bn, rfl⟩ := Int.eq_ofNat_of_zero_le hgb.2
   exact take_ok A0 c0 l0 gn bn w hr0 hc0 hwb hm
  ·have hT : takeS l0 a b = ([], 0, 0, mayS l0 a b 46) := by unfold takeS; rw [if_pos hm]
   rw [hT]
   refine (take_bad A0 c0 l0 a b _ w hr0 hc0 hs rfl hm).mono ?_
   rintro e w1 ⟨rfl, hb⟩
   exact ⟨_, rfl, Kd.S_nil _ _ _ _ _, hb⟩
 ·rw [if_neg hs] at h; cases h
theorem cyl_Take.calls (A0 : Option Addr) (c0 : Nat) (l0 : List S42) (a b : Int) (r1 : List S42) (r2 r3 r4 : Int) (w : World) (hr0 : Kd.C k42 w A0 l0.length l0) (hc0 : l0.length ≤ c0) (h : cyl_Take.f l0 a b = some (r1, r2, r3, r4)) :
  Calls Try.prog 13 #[.slice A0 l0.length c0, .agg #[.int .i64 a, .int .i64 b]] w fun e w' => ∃ v, e = .returned (.tuple #[v, .agg #[.int .i64 r2, .int .i64 r3], .int .i64 r4]) ∧ Kd.S k42 42 w' w.heap.size (fun _ => True) v r1 ∧ Below w.heap.size w w' := cyl_Take.calls_ A0 c0 l0 a b (r1, r2, r3, r4) w hr0 hc0 h
end Go.Proofs.Ytehjmmedghcndaa.PG
