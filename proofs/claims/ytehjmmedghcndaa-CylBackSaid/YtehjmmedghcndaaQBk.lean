import Derived.Test.YtehjmmedghcndaaGG
import Derived.Test.YtehjmmedghcndaaQB0
import Derived.Test.YtehjmmedghcndaaQCo
import Derived.Test.YtehjmmedghcndaaQX8
/-! The law CylBack over what is printed. -/
namespace Go.Proofs.Ytehjmmedghcndaa.PG
open Go.RowKit Go.Proofs.YtehjmmedghcndaaW.PrintWords Go.Proofs.YtehjmmedghcndaaW.PrintLast Go.Proofs.YtehjmmedghcndaaW.PrintMore
theorem right_ints {c : S42} (h : rightB c = true) : IntsC c := by
 have hp := (right_iff c).1 h
 have a0 := hp.i0; have a1 := hp.i1; have a2 := hp.b0; have a3 := hp.b1; have a4 := hp.r0; have a5 := hp.r1; have a6 := hp.fb; have a7 := hp.fi; have a8 := hp.ulen; have a9 := hp.nlen
 refine ⟨⟨?_, ?_⟩, ⟨?_, ?_⟩, ⟨?_, ?_⟩, ⟨?_, ?_⟩, ⟨?_, ?_⟩⟩ <;> omega
theorem sameB_eq {x y : S42} (h : sameB x y = true) : x = y := by
 unfold sameB at h
 simp only [Bool.and_eq_true, decide_eq_true_eq] at h
 obtain ⟨h0, h1, h2, h3, h4, h5, h6⟩ := h
 cases x; cases y
 simp_all
theorem back_j1 (l : List Int) (hB : Bt.Bytes l) (k : Nat) : selvedgelaw18_CylBack.j1 (k + 1) l = some true := by
 have hd : cyl_Decode.f l = some ((decS l).1.f0, (decS l).1.f1, (decS l).1.f2, (decS l).1.f3, (decS l).1.f4, (decS l).1.f5, (decS l).1.f6, (decS l).2) := if_pos hB
 rw [selvedgelaw18_CylBack.j1, hd, Option.bind_some]
 dsimp only
 by_cases h : (decS l).2 = 0
 ·obtain ⟨_, h2, h3, h4⟩ := dec_ok h
  have he : cyl_Encode.f (decS l).1.f0 (decS l).1.f1 (decS l).1.f2 (decS l).1.f3 (decS l).1.f4 (decS l).1.f5 (decS l).1.f6 = some (l, 0) := by
   unfold cyl_Encode.f
   rw [if_pos h4]
   unfold encS
   rw [if_pos h2, h3]
  rw [if_pos h, he, Option.bind_some]
  show (some true).bind _ = _
  rw [Option.bind_some, if_pos rfl, if_pos rfl, if_pos rfl]
 ·have hn := dec_no h
  rw [if_neg h, hn]
  show (some true).bind _ = _
  rw [Option.bind_some, if_pos rfl, if_pos rfl]
  exact if_pos rfl
theorem back_j0 (l : List Int) (hB : Bt.Bytes l) (c : S42) (hs : SmallC c) (hr : rightB c = true) (t0 t1 : Int) (h0 : 0 ≤ t0 ∧ t0 ≤ 255) (h1 : 0 ≤ t1 ∧ t1 ≤ 255) (k : Nat) :
  selvedgelaw18_CylBack.j0 (k + 1002) l (encB c) false c.f0 c.f1 c.f2 c.f3 c.f4 c.f5 c.f6 t0 t1 = some true := by
 have hj := back_j1 l hB (k + 1000)
 have hl := enc_len hs hr
 have hb := enc_bytes hs hr
 rw [show k + 1002 = (k + 1001) + 1 by omega, selvedgelaw18_CylBack.j0, if_neg (by decide)]
 by_cases ht : t1 = 0
 ·rw [if_pos ht, show k + 1001 = (k + 1000) + 1 by omega]
  exact hj
 ·obtain ⟨i, hi, hi2⟩ : ∃ i : Nat, Int.tmod t0 32 = (i : Int) ∧ i < 32 := ⟨(t0 % 32).toNat, by rw [Int.tmod_eq_emod_of_nonneg h0.1]; omega, by omega⟩
  have hil : i < (encB c).length := by omega
  rw [if_neg ht, Option.bind_some, if_pos (by rw [List.length_nil]; omega), Option.bind_some, List.nil_append, hi, if_pos (by omega), if_pos (by omega), rd_at (encB c) i hil, Int.toNat_natCast]
  have hx := hb _ (List.getElem_mem hil)
  obtain ⟨x, hxe⟩ := Int.eq_ofNat_of_zero_le hx.1
  obtain ⟨t, hte⟩ := Int.eq_ofNat_of_zero_le h1.1
  obtain ⟨y0, y1, y2⟩ := xor8 x (by omega) t (by omega)
  rw [hxe, hte]
  obtain ⟨y, hy⟩ : ∃ y, Go.bits .xor .u8 (x : Int) (t : Int) = y := ⟨_, rfl⟩
  rw [hy] at y0 y1 y2 ⊢
  have hyB : Bt.Bytes ((encB c).set i y) := fun z hz => by
   rcases List.mem_or_eq_of_mem_set hz with hz | rfl
   ·exact hb z hz
   ·exact ⟨y0, y1⟩
  have hd : cyl_Decode.f ((encB c).set i y) = some ((decS ((encB c).set i y)).1.f0, (decS ((encB c).set i y)).1.f1, (decS ((encB c).set i y)).1.f2, (decS ((encB c).set i y)).1.f3, (decS ((encB c).set i y)).1.f4, (decS ((encB c).set i y)).1.f5, (decS ((encB c).set i y)).1.f6, (decS ((encB c).set i y)).2) := if_pos hyB
  rw [hd, Option.bind_some]
  dsimp only
  by_cases h : (decS ((encB c).set i y)).2 = 0
  ·obtain ⟨_, g2, g3, g4⟩ := dec_ok h
   rw [if_pos h, csame_is _ c g4 (right_ints g2) (right_ints hr) k, Option.bind_some]
   cases hsm : sameB (decS ((encB c).set i y)).1 c with
   | true =>
    exfalso
    have e := sameB_eq hsm
    rw [e] at g3
    have e2 : ((encB c).set i y)[i]'(by rw [List.length_set]; exact hil) = y := List.getElem_set_self ..
    have e3 : (encB c)[i] = y := by
     have : (encB c)[i]'hil = ((encB c).set i y)[i]'(by rw [List.length_set]; exact hil) := by congr 1
     rw [this]; exact e2
    rw [hxe] at e3
    have := y2 e3.symm
    omega
   | false =>
    rw [if_neg (by decide), show k + 1001 = (k + 1000) + 1 by omega]
    exact hj
  ·rw [if_neg h, show k + 1001 = (k + 1000) + 1 by omega]
   exact hj
theorem cylBack_is (c : S42) (l : List Int) (hB : Bt.Bytes l) (t0 t1 : Int) (h0 : 0 ≤ t0 ∧ t0 ≤ 255) (h1 : 0 ≤ t1 ∧ t1 ≤ 255) : selvedgelaw18_CylBack.f 1002 c.f0 c.f1 c.f2 c.f3 c.f4 c.f5 c.f6 l t0 t1 = some true := by
 have hs : SmallC (oneS c) := ⟨by show (c.f5.take 70).length ≤ 1000; rw [List.length_take]; omega, by show (c.f6.take 20).length ≤ 1000; rw [List.length_take]; omega⟩
 unfold selvedgelaw18_CylBack.f
 rw [one_is c, Option.bind_some]
 have he : cyl_Encode.f c.f0 c.f1 c.f2 c.f3 c.f4 (c.f5.take 70) (c.f6.take 20) = some (encS (oneS c)) := if_pos hs
 dsimp only
 rw [he, Option.bind_some]
 cases hr : rightB (oneS c) with
 | true =>
  have e : encS (oneS c) = (encB (oneS c), 0) := by unfold encS; rw [hr, if_pos rfl]
  have hd : cyl_Decode.f (encB (oneS c)) = some (c.f0, c.f1, c.f2, c.f3, c.f4, c.f5.take 70, c.f6.take 20, 0) := by
   unfold cyl_Decode.f
   rw [if_pos (enc_bytes hs hr), dec_enc hs hr]
   rfl
  have hsm := csame_is (oneS c) (oneS c) hs (right_ints hr) (right_ints hr) 1
  rw [sameB_self] at hsm
  rw [e]
  dsimp only
  rw [if_pos rfl, hd, Option.bind_some]
  dsimp only
  rw [if_pos rfl, show cyl_Same.f 1002 c.f0 c.f1 c.f2 c.f3 c.f4 (c.f5.take 70) (c.f6.take 20) c.f0 c.f1 c.f2 c.f3 c.f4 (c.f5.take 70) (c.f6.take 20) = some true from hsm, Option.bind_some, if_pos rfl]
  rw [show (((encB (oneS c)).length : Int) != 32) = false by rw [enc_len hs hr]; rfl]
  exact back_j0 l hB (oneS c) hs hr t0 t1 h0 h1 0
 | false =>
  have e : encS (oneS c) = ([], 3) := by unfold encS; rw [hr, if_neg (by decide)]
  rw [e]
  dsimp only
  rw [if_neg (by decide)]
  exact back_j1 l hB 1001
end Go.Proofs.Ytehjmmedghcndaa.PG
