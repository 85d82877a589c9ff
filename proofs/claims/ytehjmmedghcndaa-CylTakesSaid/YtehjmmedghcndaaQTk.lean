import Derived.Test.YtehjmmedghcndaaG9
import Derived.Test.YtehjmmedghcndaaCZ
/-! CylTakes, plain -/
namespace Go.Proofs.Ytehjmmedghcndaa.PG
open Go.RowKit Go.Proofs.YtehjmmedghcndaaW.PrintWords Go.Proofs.YtehjmmedghcndaaW.PrintLast Go.Proofs.YtehjmmedghcndaaW.PrintMore
theorem nil_small : SmallL [] := ⟨by decide, fun c hc => by cases hc⟩
theorem set_small {l : List S42} (hl : SmallL l) (i : Nat) {c : S42} (hc : SmallC c) : SmallL (l.set i c) := ⟨by rw [List.length_set]; exact hl.1, fun d hd => by
 rcases List.mem_or_eq_of_mem_set hd with h | rfl
 ·exact hl.2 d h
 ·exact hc⟩
theorem rd_few {l : List S42} (hw : WholeP l) (x : Int) : (rd_T42 l x).f5.length ≤ 64 ∧ (rd_T42 l x).f6.length ≤ 16 := by
 unfold rd_T42
 rw [List.getD_eq_getElem?_getD]
 by_cases h : x.toNat < l.length
 ·rw [List.getElem?_eq_getElem h]
  have hr := (hw.at_ _ h).2
  exact ⟨hr.ulen, hr.nlen⟩
 ·rw [List.getElem?_eq_none (by omega)]
  exact ⟨by decide, by decide⟩
theorem takeS_small (l : List S42) (hl : SmallL l) (a b : Int) : SmallL (takeS l a b).1 := by
 unfold takeS
 by_cases hm : mayS l a b 46 = 0
 ·rw [if_neg (show ¬ (mayS l a b 46 ≠ 0) from fun h => h hm)]
  have hw := (may0 hm).1
  cases (roundL a.toNat l.length).findSome? (fun x => (freeAt l a b x).map (fun y => (x, y))) with
  | none => exact nil_small
  | some p =>
   obtain ⟨x, y⟩ := p
   have h := rd_few hw x
   exact set_small hl _ ⟨by show (putAt _ _ _).length ≤ 1000; rw [putAt_len]; omega, by show (rd_T42 l x).f6.length ≤ 1000; omega⟩
 ·rw [if_pos hm]
  exact nil_small
theorem giveS_small (l : List S42) (hl : SmallL l) (a b : Int) : SmallL (giveS l a b).1 := by
 unfold giveS
 by_cases hm : mayS l a b 46 = 0
 ·rw [if_neg (show ¬ (mayS l a b 46 ≠ 0) from fun h => h hm)]
  have h := rd_few (may0 hm).1 a
  by_cases hc : (rd_T42 l a).f5.contains b = true
  ·rw [if_pos hc]
   have hle : (lessS (rd_T42 l a).f5 b).length ≤ (rd_T42 l a).f5.length := List.length_filter_le _ _
   exact set_small hl _ ⟨by show (lessS _ _).length ≤ 1000; omega, by show (rd_T42 l a).f6.length ≤ 1000; omega⟩
  ·rw [if_neg hc]
   exact nil_small
 ·rw [if_pos hm]
  exact nil_small
theorem cylTakes_is (l : List S42) (a b : Int) : selvedgelaw18_CylTakes.f 3004 l a b = some true := by
 have hf : selvedgelaw18_few.f 3004 l = some ((l.take 18).map oneS) := few_is l 2984
 have hs := few_small l
 obtain ⟨F, hF⟩ : ∃ F, (l.take 18).map oneS = F := ⟨_, rfl⟩
 rw [hF] at hf hs
 have ht : cyl_Take.f F a b = some (takeS F a b) := if_pos hs
 have hr : selvedgeref18_Take.f F a b = some (takeS F a b) := if_pos hs
 have hg : cyl_Give.f 3004 F a b = some (giveS F a b) := cgive_is F hs a b 2003
 have hq : selvedgeref18_Give.f 3004 F a b = some (giveS F a b) := rgive_is F hs a b 0
 have h1 : selvedgeref18_SameAll.f 3004 (takeS F a b).1 (takeS F a b).1 = some true := sameAll_is _ (takeS_small _ hs _ _) 1002
 have h2 : selvedgeref18_SameAll.f 3004 (giveS F a b).1 (giveS F a b).1 = some true := sameAll_is _ (giveS_small _ hs _ _) 1002
 have h3 : selvedgeref18_SameAll.f 3004 F F = some true := sameAll_is _ hs 1002
 have h4 : cyl_Whole.f 3004 F = some (wholeB F) := whole_is F hs 999
 have h5 : selvedgeref18_Whole.f 3004 F = some (wholeB F) := rwhole_is F hs 0
 unfold selvedgelaw18_CylTakes.f
 simp only [hf, ht, hr, hg, hq, h1, h2, h3, h4, h5, Option.bind_some, selvedgelaw18_live.f, beq_self_eq_true, Bool.and_self, if_true]
end Go.Proofs.Ytehjmmedghcndaa.PG
