import Derived.Test.YtehjmmedghcndaaGK
import Derived.Test.YtehjmmedghcndaaDD
import Derived.Test.YtehjmmedghcndaaJ41
import Derived.Test.YtehjmmedghcndaaCW
/-! CylInodes, plain -/
namespace Go.Proofs.Ytehjmmedghcndaa.PG
open Go.RowKit Go.Proofs.YtehjmmedghcndaaW.PrintWords Go.Proofs.YtehjmmedghcndaaW.PrintLast Go.Proofs.YtehjmmedghcndaaW.PrintMore
/-- A group without an inode. -/
def leaveC (y : S42) (b : Int) : S42 := ⟨y.f0, y.f1, wrap64 (y.f1 - (y.f5.length : Int)), wrap64 (16 - ((lessS y.f6 b).length : Int)), y.f4, y.f5, lessS y.f6 b⟩
/-- An inode is given back. -/
def leaveS (l : List S42) (a b : Int) : List S42 × Int :=
 if mayS l a b 72 ≠ 0 then ([], mayS l a b 72) else if (rd_T42 l a).f6.contains b = true then (l.set a.toNat (leaveC (rd_T42 l a) b), 0) else ([], 5)
theorem may72 {l : List S42} {a b : Int} (hm : mayS l a b 72 = 0) : WholeP l ∧ 0 ≤ a ∧ a < (l.length : Int) ∧ 0 ≤ b ∧ b < 16 := by
 have hw := may_whole hm
 unfold mayS at hm
 rw [(whole_iff l).2 hw, if_neg (by decide)] at hm
 refine ⟨hw, ?_⟩
 by_cases hh : a < 0 ∨ (l.length : Int) ≤ a ∨ b < 0 ∨ manyS 72 (rd_T42 l a) ≤ b
 ·rw [if_pos hh] at hm; cases hm
 ·unfold manyS at hh
  rw [if_neg (by decide)] at hh
  omega
theorem cleave_is (l : List S42) (hl : SmallL l) (a b : Int) (k : Nat) : cyl_Leave.f (k + 1001) l a b = some (leaveS l a b) := by
 have hmay : cyl_may.f l a b 72 = some (mayS l a b 72) := by
  unfold cyl_may.f
  rw [if_pos ⟨hl, .inr rfl⟩]
 unfold cyl_Leave.f leaveS
 rw [hmay, Option.bind_some]
 by_cases hm : mayS l a b 72 = 0
 ·obtain ⟨hw, ha, hal, hb, hbl⟩ := may72 hm
  rw [if_pos hm, if_neg (show ¬ (mayS l a b 72 ≠ 0) from fun h => h hm), copied_is l hl k, Option.bind_some, if_pos ha, if_pos hal]
  obtain ⟨gn, rfl⟩ := Int.eq_ofNat_of_zero_le ha
  have hgl : gn < l.length := by omega
  have hry := (hw.at_ gn hgl).2
  rw [rdT_at l gn hgl]
  have hu := hry.nlen
  rw [remove_is _ _ _ hry.n (by omega) b k, Option.bind_some]
  by_cases hc : l[gn].f6.contains b = true
  ·rw [if_pos hc, if_pos hc, if_pos rfl]
   rfl
  ·rw [if_neg hc, if_neg hc, if_neg (show ¬ ((false : Bool) = true) by decide)]
 ·rw [if_neg hm, if_pos hm]
theorem rleave_is (l : List S42) (hl : SmallL l) (a b : Int) (k : Nat) : selvedgeref18_Leave.f (k + 3004) l a b = some (leaveS l a b) := by
 unfold selvedgeref18_Leave.f
 rw [rwhole_is l hl k, Option.bind_some]
 by_cases hm : mayS l a b 72 = 0
 ·obtain ⟨hw, ha, hal, hb, hbl⟩ := may72 hm
  have hwb := (whole_iff l).2 hw
  unfold leaveS
  rw [if_pos hwb, if_neg (show ¬ a < 0 by omega), if_neg (show ¬ a ≥ (l.length : Int) by omega), if_neg (show ¬ b < 0 by omega), if_neg (show ¬ b ≥ 16 by omega), if_pos ha, if_pos hal, if_neg (show ¬ (mayS l a b 72 ≠ 0) from fun h => h hm)]
  obtain ⟨gn, rfl⟩ := Int.eq_ofNat_of_zero_le ha
  have hgl : gn < l.length := by omega
  have hry := (hw.at_ gn hgl).2
  have hri := (hw.at_ gn hgl).1
  rw [rdT_at l gn hgl]
  have hu := hry.ulen
  have hn := hry.nlen
  rw [show k + 3004 = (k + 2003) + 1001 by omega, rhas_is _ (by omega) b, Option.bind_some]
  by_cases hc : l[gn].f6.contains b = true
  ·have hle : (lessS l[gn].f6 b).length ≤ l[gn].f6.length := List.length_filter_le _ _
   rw [if_pos hc, if_pos hc, rwithout_is _ (by omega) b, Option.bind_some, hri, rset_is l hl gn _ _ _ _ _ _ (by omega) (by omega), Option.bind_some, Int.toNat_natCast]
   unfold leaveC
   rw [hri]
  ·rw [if_neg hc, if_neg hc]
 ·have hg : leaveS l a b = ([], mayS l a b 72) := by unfold leaveS; rw [if_pos hm]
  rw [hg]
  unfold mayS at hm ⊢
  cases hw : wholeB l with
  | false => rfl
  | true =>
   rw [hw, if_neg (by decide)] at hm
   rw [if_pos rfl, if_neg (show ¬ (true = false) by decide)]
   unfold manyS at hm ⊢
   rw [if_neg (show ¬ ((72 : Nat) = 46) by decide)] at hm
   rw [if_neg (show ¬ ((72 : Nat) = 46) by decide)]
   by_cases hh : a < 0 ∨ (l.length : Int) ≤ a ∨ b < 0 ∨ 16 ≤ b
   ·rw [if_pos hh]
    by_cases h1 : a < 0
    ·rw [if_pos h1]
    ·rw [if_neg h1]
     by_cases h2 : a ≥ (l.length : Int)
     ·rw [if_pos h2]
     ·rw [if_neg h2]
      by_cases h3 : b < 0
      ·rw [if_pos h3]
      ·rw [if_neg h3, if_pos (show b ≥ 16 by omega)]
   ·rw [if_neg hh] at hm
    exact absurd rfl hm
theorem nil_small2 : SmallL [] := ⟨by decide, fun c hc => by cases hc⟩
theorem set_small2 {l : List S42} (hl : SmallL l) (i : Nat) {c : S42} (hc : SmallC c) : SmallL (l.set i c) := ⟨by rw [List.length_set]; exact hl.1, fun d hd => by
 rcases List.mem_or_eq_of_mem_set hd with h | rfl
 ·exact hl.2 d h
 ·exact hc⟩
theorem rd_few2 {l : List S42} (hw : WholeP l) (x : Int) : (rd_T42 l x).f5.length ≤ 64 ∧ (rd_T42 l x).f6.length ≤ 16 := by
 unfold rd_T42
 rw [List.getD_eq_getElem?_getD]
 by_cases h : x.toNat < l.length
 ·rw [List.getElem?_eq_getElem h]
  have hr := (hw.at_ _ h).2
  exact ⟨hr.ulen, hr.nlen⟩
 ·rw [List.getElem?_eq_none (by omega)]
  exact ⟨by decide, by decide⟩
theorem first_small {l : List S42} (hw : WholeP l) (x : Int) : SmallL (l.set x.toNat (firstC (rd_T42 l x))) := by
 have h := rd_few2 hw x
 exact set_small2 hw.small _ ⟨by show (rd_T42 l x).f5.length ≤ 1000; omega, by show (putAt _ _ _).length ≤ 1000; rw [putAt_len]; omega⟩
theorem fileS_small (l : List S42) (g : Int) : SmallL (fileS l g).1 := by
 unfold fileS
 cases hw : wholeB l with
 | false => exact nil_small2
 | true =>
  rw [if_neg (show ¬ (true = false) by decide)]
  by_cases h : g < 0 ∨ (l.length : Int) ≤ g
  ·rw [if_pos h]; exact nil_small2
  ·rw [if_neg h]
   cases (hashL g.toNat l.length).find? (fun x => (rd_T42 l x).f3 != 0) with
   | none => exact nil_small2
   | some x => exact first_small ((whole_iff l).1 hw) x
theorem dirS_small (l : List S42) (hw : WholeP l) : SmallL (dirS l).1 := by
 unfold dirS
 by_cases h : dirB l < 0
 ·rw [if_pos h]; exact nil_small2
 ·rw [if_neg h]; exact first_small hw _
theorem leaveS_small (l : List S42) (hl : SmallL l) (a b : Int) : SmallL (leaveS l a b).1 := by
 unfold leaveS
 by_cases hm : mayS l a b 72 = 0
 ·rw [if_neg (show ¬ (mayS l a b 72 ≠ 0) from fun h => h hm)]
  have h := rd_few2 (may72 hm).1 a
  by_cases hc : (rd_T42 l a).f6.contains b = true
  ·rw [if_pos hc]
   have hle : (lessS (rd_T42 l a).f6 b).length ≤ (rd_T42 l a).f6.length := List.length_filter_le _ _
   exact set_small2 hl _ ⟨by show (rd_T42 l a).f5.length ≤ 1000; omega, by show (lessS _ _).length ≤ 1000; omega⟩
  ·rw [if_neg hc]
   exact nil_small2
 ·rw [if_pos hm]
  exact nil_small2
theorem cylInodes_is (l : List S42) (g a b : Int) : selvedgelaw18_CylInodes.f 3100 l g a b = some true := by
 have hf : selvedgelaw18_few.f 3100 l = some ((l.take 18).map oneS) := few_is l 3080
 have hs := few_small l
 obtain ⟨F, hF⟩ : ∃ F, (l.take 18).map oneS = F := ⟨_, rfl⟩
 rw [hF] at hf hs
 have ht : cyl_File.f F g = some (fileS F g) := if_pos hs
 have hr : selvedgeref18_File.f 3100 F g = some (fileS F g) := rfile_is F hs g 70
 have hd : ∃ D, cyl_Dir.f 3100 F = some D ∧ selvedgeref18_Dir.f 3100 F = some D ∧ SmallL D.1 := by
  cases hw : wholeB F with
  | true => exact ⟨dirS F, dir_is F ((whole_iff F).1 hw) 1095, rdir_is F ((whole_iff F).1 hw) 70, dirS_small F ((whole_iff F).1 hw)⟩
  | false => exact ⟨_, dir_no F hs hw 1095, rdir_no F hs hw 70, nil_small2⟩
 obtain ⟨D, hd1, hd2, hd3⟩ := hd
 have hg : cyl_Leave.f 3100 F a b = some (leaveS F a b) := cleave_is F hs a b 2099
 have hq : selvedgeref18_Leave.f 3100 F a b = some (leaveS F a b) := rleave_is F hs a b 96
 have h1 : selvedgeref18_SameAll.f 3100 (fileS F g).1 (fileS F g).1 = some true := sameAll_is _ (fileS_small _ _) 1098
 have h2 : selvedgeref18_SameAll.f 3100 D.1 D.1 = some true := sameAll_is _ hd3 1098
 have h3 : selvedgeref18_SameAll.f 3100 (leaveS F a b).1 (leaveS F a b).1 = some true := sameAll_is _ (leaveS_small _ hs _ _) 1098
 have h4 : selvedgeref18_SameAll.f 3100 F F = some true := sameAll_is _ hs 1098
 have hl : selvedgelaw18_live.f = some true := rfl
 unfold selvedgelaw18_CylInodes.f
 simp only [hf, ht, hr, hd1, hd2, hg, hq, h1, h2, h3, h4, hl, Option.bind_some, BEq.rfl, Bool.and_self, if_true]
end Go.Proofs.Ytehjmmedghcndaa.PG
