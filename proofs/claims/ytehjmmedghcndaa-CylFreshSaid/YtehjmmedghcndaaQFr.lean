import Derived.Test.YtehjmmedghcndaaDG
import Derived.Test.YtehjmmedghcndaaCZ
/-! CylFresh, plain: what is taken and given back leaves all as it was, but for the Rotor -/
namespace Go.Proofs.Ytehjmmedghcndaa.PG
open Go.RowKit Go.Proofs.YtehjmmedghcndaaW.PrintWords Go.Proofs.YtehjmmedghcndaaW.PrintLast Go.Proofs.YtehjmmedghcndaaW.PrintMore
theorem less_put {l : List Int} {x : Int} (h : l.contains x = false) (i : Nat) : lessS (putAt l i x) x = l := by
 have hne : ∀ y ∈ l, (!(y == x)) = true := fun y hy => by
  cases e : (y == x) with
  | false => rfl
  | true =>
   rw [beq_iff_eq] at e
   subst e
   rw [List.contains_iff_mem.2 hy] at h
   cases h
 unfold lessS putAt
 rw [List.filter_append, List.filter_cons_of_neg (by simp), ← List.filter_append, List.take_append_drop, List.filter_eq_self.2 hne]
theorem put_has (l : List Int) (i : Nat) (x : Int) : (putAt l i x).contains x = true := by
 unfold putAt
 rw [List.contains_iff_mem]
 simp
theorem give_take {c : S42} (hc : RightP c) {y : Int} (h : c.f5.contains y = false) : ({ giveC (takeC c y) y with f4 := c.f4 } : S42) = c := by
 have hl := less_put h (ixOf c.f5 y)
 have h1 := hc.fb
 have h2 := hc.fi
 have h3 := hc.ulen
 have h4 := hc.nlen
 have h5 := hc.b0
 have h6 := hc.b1
 have e1 : wrap64 (c.f1 - (c.f5.length : Int)) = c.f2 := by unfold wrap64; omega
 have e2 : wrap64 (16 - (c.f6.length : Int)) = c.f3 := by unfold wrap64; omega
 show (⟨c.f0, c.f1, wrap64 (c.f1 - ((lessS (putAt c.f5 (ixOf c.f5 y) y) y).length : Int)), wrap64 (16 - (c.f6.length : Int)), c.f4, lessS (putAt c.f5 (ixOf c.f5 y) y) y, c.f6⟩ : S42) = c
 rw [hl, e1, e2]
/-- What is given back behind a take. -/
theorem give_back {l : List S42} (hw : WholeP l) {xn : Nat} (hx : xn < l.length) {y : Int} (h0 : 0 ≤ y) (h1 : y < l[xn].f1) (hc : l[xn].f5.contains y = false) :
  giveS (l.set xn (takeC l[xn] y)) (xn : Int) y = ((l.set xn (takeC l[xn] y)).set xn (giveC (takeC l[xn] y) y), 0) := by
 obtain ⟨a1, a2⟩ := hw.at_ xn hx
 have hw2 : WholeP (l.set xn (takeC l[xn] y)) := hw.set xn (a2.take h0 h1 hc) a1
 have hx2 : xn < (l.set xn (takeC l[xn] y)).length := by rw [List.length_set]; exact hx
 have he : (l.set xn (takeC l[xn] y))[xn] = takeC l[xn] y := by rw [List.getElem_set_self]
 have hm : mayS (l.set xn (takeC l[xn] y)) (xn : Int) y 46 = 0 := may46 hw2 hx2 h0 (by rw [he]; exact h1)
 unfold giveS
 rw [if_neg (fun h => h hm), rdT_at _ xn hx2, he, if_pos (show (takeC l[xn] y).f5.contains y = true from put_has _ _ _), Int.toNat_natCast]
theorem give_not {l : List S42} (hw : WholeP l) {xn : Nat} (hx : xn < l.length) {y : Int} (h0 : 0 ≤ y) (h1 : y < l[xn].f1) (hc : l[xn].f5.contains y = false) : giveS l (xn : Int) y = ([], 5) := by
 unfold giveS
 rw [if_neg (fun h => h (may46 hw hx h0 h1)), rdT_at _ xn hx, hc, if_neg (by decide)]
theorem back_is {l : List S42} (hw : WholeP l) {xn : Nat} (hx : xn < l.length) {y : Int} (hc : l[xn].f5.contains y = false) :
  ((l.set xn (takeC l[xn] y)).set xn (giveC (takeC l[xn] y) y)).set xn { giveC (takeC l[xn] y) y with f4 := l[xn].f4 } = l := by
 rw [List.set_set, List.set_set, give_take (hw.at_ xn hx).2 hc, List.set_getElem_self]
/-- A number of an element is stored: the row read again. -/
theorem N_set4 {W : World} {base go n co : Nat} {ok : Nat → Prop} {xs : List S42} (H : Kd.N k42 42 W base ok (.slice (some ⟨go, 0, none⟩) n co) xs) (i : Nat) (hi : i < xs.length) (z : Int) (W1 : World) (hW1 : W.setCell ⟨go, i * 7 + 4, none⟩ (.int .i64 z) = W1) :
  Kd.C k42 W1 (some ⟨go, 0, none⟩) xs.length (xs.set i { xs[i] with f4 := z }) := by
 have hr := Kd.N_reads' H
 refine ⟨List.length_set, by have := hr.2.2.2.1; exact this, fun _ => ⟨_, rfl, fun j p hj => ?_⟩⟩
 have hjl : j < xs.length := by
  have := (List.getElem?_eq_some_iff.1 hj).1
  rwa [List.length_set] at this
 obtain ⟨c, hcl, hFK, hcc, hfr⟩ := Kd.N_elem H z42 (j : Int) (by omega) (by omega)
 simp only [Int.toNat_natCast] at hFK hcc hfr
 have hK : k42.K W1 (xs.getD j z42) c := hFK W1 (fun k hk _ => by rw [← hW1]; exact Below.heap_setCell W ⟨go, i * 7 + 4, none⟩ _ k hk.2)
 have hg : xs.getD j z42 = xs[j] := by simp [List.getD_eq_getElem?_getD, hjl]
 rw [hg] at hK
 obtain ⟨A5, c5, A6, c6, rfl, l5, g5, l6, g6⟩ := k42_open hK
 have hfar : ∀ o, o ≠ i * 7 + 4 → W1.cell? ⟨go, o, none⟩ = W.cell? ⟨go, o, none⟩ := fun o ho => by rw [← hW1]; exact World.cell?_setCell_other _ _ _ _ (fun e => ho (by injection e with _ h2 _; omega))
 by_cases e : i = j
 ·subst e
  rw [List.getElem?_set_self hi] at hj
  obtain rfl := Option.some.inj hj
  refine ⟨_, rfl, k42_mk W1 { xs[i] with f4 := z } l5 g5 l6 g6, fun t u hu => ?_⟩
  show W1.cell? (Addr.add ⟨go, 0, none⟩ (i * 7 + t)) = some u
  rw [add_at, Nat.zero_add]
  by_cases e4 : t = 4
  ·subst e4
   have hold : W.cell? ⟨go, i * 7 + 4, none⟩ = some (.int .i64 xs[i].f4) := hcc 4 _ rfl
   obtain rfl : u = .int .i64 z := (Option.some.inj hu).symm
   rw [← hW1]
   exact World.cell?_setCell_same _ _ _ hold
  ·rw [hfar _ (by omega)]
   refine hcc t u ?_
   rw [← hu]
   rcases t with _ | _ | _ | _ | _ | _ | _ | t <;> first | rfl | exact absurd rfl e4
 ·rw [List.getElem?_set_ne e] at hj
  obtain ⟨_, rfl⟩ := List.getElem?_eq_some_iff.1 hj
  refine ⟨_, rfl, k42_mk W1 xs[j] l5 g5 l6 g6, fun t u hu => ?_⟩
  show W1.cell? (Addr.add ⟨go, 0, none⟩ (j * 7 + t)) = some u
  have ht : t < 7 := (List.getElem?_eq_some_iff.1 hu).1
  rw [add_at, Nat.zero_add, hfar _ (by omega)]
  exact hcc t u hu
end Go.Proofs.Ytehjmmedghcndaa.PG
